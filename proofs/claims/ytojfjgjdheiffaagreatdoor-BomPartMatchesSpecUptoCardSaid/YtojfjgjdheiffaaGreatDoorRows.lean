/-
  NARROWER THAN 'FOR EVERY INPUT', by the rows' own cells (each row's printed sentence says how): BomGatesMatchSpec: laid · BomNeedsMatchSpec: laid · BomPathsMatchSpec: laid · BomPathsArePaths: laid · BomGatesAreKept: laid · BomPartMatchesSpec: laid · BomApplyMatchesSpec: laid · BomDiffApplies: laid · BomReachMatchesSpec: laid · BomCheckMatchesSpec: laid · BomTidyIsRight: laid.
  DERIVED. THE GIVEN ROWS OF THIS SEAT. 11 by the template 'for every input the law returns true; each argument reads behind the call as it read before'; 0 by the template 'total and deterministic' (their statements: YtojfjgjdheiffaaGreatDoorTotals.lean).
  GIVEN WITH THE SEED: the statements are not yours to turn. If you find one false, say at which input.
  Laid BY PROGRAM, IN A SANDBOX (cutbox-rows.mjs): the forced cells as the released guide's own fill.sh prints them over the translation 12131ea15699cd14… (all of the seat's roots in one cut). By AI agents, Wed Nov 11 2026. No macro, syntax, notation, axiom, sorry.
-/
import Derived.Test.YtojfjgjdheiffaaGreatDoorChecked
import GoSem.PinnedTables
import GoSem.Claim
import GoSem.ClaimJoined
import GoSem.ClaimMapViews
import Derived.JoinedTies
import Derived.KernelRfl
namespace Go.Proofs.YtojfjgjdheiffaaGreatDoor
/- THE CELL 'sum', in the pinned program and in every row, IS THE sha256 OF THE DUMP (.gsa) THAT YtojfjgjdheiffaaGreatDoorProg.lean LOADS. Nothing in Lean hashes anything: it is a label: what it is worth is what the hold of that sum in a sandbox is worth. -/
noncomputable def Tryz.pinned : Pinned := { name := "ytojfjgjdheiffaagreatdoor", sum := "12131ea15699cd1429f006330a1bdad430e7c57cc77a3f0091f807938c8ff9a0", checked := Tryz.checked }
namespace Rows
def none {H : Type} : Left H := { results := [], args := [] }

/- WHAT THE LISTED PACKAGE-LEVEL VARIABLES READ AS WHEN THE CALL BEGINS. Each datum BY PROGRAM (the guide's laid-datum.mjs) off the statement by which the dump's own 'gosem.cut.vars' lays the variable. In a bare row this is a premise. The card (YtojfjgjdheiffaaGreatDoorCards.lean) ties it to the program's text. -/
def laid_unicode_utf8_acceptRanges {H : Type} : DataW H := .agg [.agg [.lit (.int .u8 128), .lit (.int .u8 191)], .agg [.lit (.int .u8 160), .lit (.int .u8 191)], .agg [.lit (.int .u8 128), .lit (.int .u8 159)], .agg [.lit (.int .u8 144), .lit (.int .u8 191)], .agg [.lit (.int .u8 128), .lit (.int .u8 143)], .agg [.lit (.int .u8 0), .lit (.int .u8 0)], .agg [.lit (.int .u8 0), .lit (.int .u8 0)], .agg [.lit (.int .u8 0), .lit (.int .u8 0)], .agg [.lit (.int .u8 0), .lit (.int .u8 0)], .agg [.lit (.int .u8 0), .lit (.int .u8 0)], .agg [.lit (.int .u8 0), .lit (.int .u8 0)], .agg [.lit (.int .u8 0), .lit (.int .u8 0)], .agg [.lit (.int .u8 0), .lit (.int .u8 0)], .agg [.lit (.int .u8 0), .lit (.int .u8 0)], .agg [.lit (.int .u8 0), .lit (.int .u8 0)], .agg [.lit (.int .u8 0), .lit (.int .u8 0)]]
/-- One of Go's own tables, pinned by name: the form's constant. -/
def laid_unicode_CaseRanges : DataW Unit := Go.Pinned.caseRanges
/-- One of Go's own tables, pinned by name: the form's constant. -/
def laid_unicode_utf8_first : DataW Unit := Go.Pinned.utf8First

/-- 'provenderlaw4.BomGatesMatchSpec': WHATEVER THE INPUT: true; the input reads as it did. -/
def bomGatesMatchSpecSpec : ChangeSpec := { name := "bomGatesMatchSpec", fn := fun _ => fun
  | [d1, d2, d3] => { results := [.lit (.bool true)], args := [d1, d2, d3] }
  | _ => none }
def bomGatesMatchSpecRow : OpenClaim := { program := "ytojfjgjdheiffaagreatdoor", sum := "12131ea15699cd1429f006330a1bdad430e7c57cc77a3f0091f807938c8ff9a0", func := "provender/provenderlaw4.BomGatesMatchSpec", spec := "bomGatesMatchSpec", inPlace := ["internal/bytealg.CountString", "internal/bytealg.IndexByteString", "internal/bytealg.IndexString", "internal/abi.NoEscape", "internal/bytealg.MakeNoZero"], unfollowed := true, recurses := true, named := ["unicode/utf8.first", "unicode/utf8.acceptRanges", "internal/bytealg.MaxLen", "unicode.CaseRanges"], apart := false, laid := [("unicode/utf8.acceptRanges", laid_unicode_utf8_acceptRanges), ("unicode.CaseRanges", laid_unicode_CaseRanges), ("unicode/utf8.first", laid_unicode_utf8_first)] }
def BomGatesMatchSpecSaid : Prop := bomGatesMatchSpecRow.holds Tryz.pinned (OpenSpec.ofChange bomGatesMatchSpecSpec)

/-- ITS FALSE NEIGHBOUR: 'it returns false'. Refute it at one input. -/
def bomGatesMatchSpecWrong : ChangeSpec := { name := "bomGatesMatchSpec", fn := fun _ => fun
  | [d1, d2, d3] => { results := [.lit (.bool false)], args := [d1, d2, d3] }
  | _ => none }
def BomGatesMatchSpecWrongFalsely : Prop := bomGatesMatchSpecRow.holds Tryz.pinned (OpenSpec.ofChange bomGatesMatchSpecWrong)

/-- 'provenderlaw4.BomNeedsMatchSpec': WHATEVER THE INPUT: true; the input reads as it did. -/
def bomNeedsMatchSpecSpec : ChangeSpec := { name := "bomNeedsMatchSpec", fn := fun _ => fun
  | [d1, d2, d3] => { results := [.lit (.bool true)], args := [d1, d2, d3] }
  | _ => none }
def bomNeedsMatchSpecRow : OpenClaim := { program := "ytojfjgjdheiffaagreatdoor", sum := "12131ea15699cd1429f006330a1bdad430e7c57cc77a3f0091f807938c8ff9a0", func := "provender/provenderlaw4.BomNeedsMatchSpec", spec := "bomNeedsMatchSpec", inPlace := ["internal/bytealg.CountString", "internal/bytealg.IndexByteString", "internal/bytealg.IndexString", "internal/abi.NoEscape", "internal/bytealg.MakeNoZero"], unfollowed := true, recurses := true, named := ["unicode/utf8.first", "unicode/utf8.acceptRanges", "internal/bytealg.MaxLen", "unicode.CaseRanges"], apart := false, laid := [("unicode/utf8.acceptRanges", laid_unicode_utf8_acceptRanges), ("unicode.CaseRanges", laid_unicode_CaseRanges), ("unicode/utf8.first", laid_unicode_utf8_first)] }
def BomNeedsMatchSpecSaid : Prop := bomNeedsMatchSpecRow.holds Tryz.pinned (OpenSpec.ofChange bomNeedsMatchSpecSpec)

/-- ITS FALSE NEIGHBOUR: 'it returns false'. Refute it at one input. -/
def bomNeedsMatchSpecWrong : ChangeSpec := { name := "bomNeedsMatchSpec", fn := fun _ => fun
  | [d1, d2, d3] => { results := [.lit (.bool false)], args := [d1, d2, d3] }
  | _ => none }
def BomNeedsMatchSpecWrongFalsely : Prop := bomNeedsMatchSpecRow.holds Tryz.pinned (OpenSpec.ofChange bomNeedsMatchSpecWrong)

/-- 'provenderlaw4.BomPathsMatchSpec': WHATEVER THE INPUT: true; the input reads as it did. -/
def bomPathsMatchSpecSpec : ChangeSpec := { name := "bomPathsMatchSpec", fn := fun _ => fun
  | [d1, d2, d3, d4] => { results := [.lit (.bool true)], args := [d1, d2, d3, d4] }
  | _ => none }
def bomPathsMatchSpecRow : OpenClaim := { program := "ytojfjgjdheiffaagreatdoor", sum := "12131ea15699cd1429f006330a1bdad430e7c57cc77a3f0091f807938c8ff9a0", func := "provender/provenderlaw4.BomPathsMatchSpec", spec := "bomPathsMatchSpec", inPlace := ["internal/bytealg.CountString", "internal/bytealg.IndexByteString", "internal/bytealg.IndexString", "internal/abi.NoEscape", "internal/bytealg.MakeNoZero"], unfollowed := true, recurses := true, named := ["unicode/utf8.first", "unicode/utf8.acceptRanges", "internal/bytealg.MaxLen", "unicode.CaseRanges"], apart := false, laid := [("unicode/utf8.acceptRanges", laid_unicode_utf8_acceptRanges), ("unicode.CaseRanges", laid_unicode_CaseRanges), ("unicode/utf8.first", laid_unicode_utf8_first)] }
def BomPathsMatchSpecSaid : Prop := bomPathsMatchSpecRow.holds Tryz.pinned (OpenSpec.ofChange bomPathsMatchSpecSpec)

/-- ITS FALSE NEIGHBOUR: 'it returns false'. Refute it at one input. -/
def bomPathsMatchSpecWrong : ChangeSpec := { name := "bomPathsMatchSpec", fn := fun _ => fun
  | [d1, d2, d3, d4] => { results := [.lit (.bool false)], args := [d1, d2, d3, d4] }
  | _ => none }
def BomPathsMatchSpecWrongFalsely : Prop := bomPathsMatchSpecRow.holds Tryz.pinned (OpenSpec.ofChange bomPathsMatchSpecWrong)

/-- 'provenderlaw4.BomPathsArePaths': WHATEVER THE INPUT: true; the input reads as it did. -/
def bomPathsArePathsSpec : ChangeSpec := { name := "bomPathsArePaths", fn := fun _ => fun
  | [d1, d2, d3, d4] => { results := [.lit (.bool true)], args := [d1, d2, d3, d4] }
  | _ => none }
def bomPathsArePathsRow : OpenClaim := { program := "ytojfjgjdheiffaagreatdoor", sum := "12131ea15699cd1429f006330a1bdad430e7c57cc77a3f0091f807938c8ff9a0", func := "provender/provenderlaw4.BomPathsArePaths", spec := "bomPathsArePaths", inPlace := ["internal/bytealg.CountString", "internal/bytealg.IndexByteString", "internal/bytealg.IndexString", "internal/abi.NoEscape", "internal/bytealg.MakeNoZero"], unfollowed := true, recurses := true, named := ["unicode/utf8.first", "unicode/utf8.acceptRanges", "internal/bytealg.MaxLen", "unicode.CaseRanges"], apart := false, laid := [("unicode/utf8.acceptRanges", laid_unicode_utf8_acceptRanges), ("unicode.CaseRanges", laid_unicode_CaseRanges), ("unicode/utf8.first", laid_unicode_utf8_first)] }
def BomPathsArePathsSaid : Prop := bomPathsArePathsRow.holds Tryz.pinned (OpenSpec.ofChange bomPathsArePathsSpec)

/-- ITS FALSE NEIGHBOUR: 'it returns false'. Refute it at one input. -/
def bomPathsArePathsWrong : ChangeSpec := { name := "bomPathsArePaths", fn := fun _ => fun
  | [d1, d2, d3, d4] => { results := [.lit (.bool false)], args := [d1, d2, d3, d4] }
  | _ => none }
def BomPathsArePathsWrongFalsely : Prop := bomPathsArePathsRow.holds Tryz.pinned (OpenSpec.ofChange bomPathsArePathsWrong)

/-- 'provenderlaw4.BomGatesAreKept': WHATEVER THE INPUT: true; the input reads as it did. -/
def bomGatesAreKeptSpec : ChangeSpec := { name := "bomGatesAreKept", fn := fun _ => fun
  | [d1, d2, d3, d4] => { results := [.lit (.bool true)], args := [d1, d2, d3, d4] }
  | _ => none }
def bomGatesAreKeptRow : OpenClaim := { program := "ytojfjgjdheiffaagreatdoor", sum := "12131ea15699cd1429f006330a1bdad430e7c57cc77a3f0091f807938c8ff9a0", func := "provender/provenderlaw4.BomGatesAreKept", spec := "bomGatesAreKept", inPlace := ["internal/bytealg.CountString", "internal/bytealg.IndexByteString", "internal/bytealg.IndexString", "internal/abi.NoEscape", "internal/bytealg.MakeNoZero"], unfollowed := true, recurses := true, named := ["unicode/utf8.first", "unicode/utf8.acceptRanges", "internal/bytealg.MaxLen", "unicode.CaseRanges"], apart := false, laid := [("unicode/utf8.acceptRanges", laid_unicode_utf8_acceptRanges), ("unicode.CaseRanges", laid_unicode_CaseRanges), ("unicode/utf8.first", laid_unicode_utf8_first)] }
def BomGatesAreKeptSaid : Prop := bomGatesAreKeptRow.holds Tryz.pinned (OpenSpec.ofChange bomGatesAreKeptSpec)

/-- ITS FALSE NEIGHBOUR: 'it returns false'. Refute it at one input. -/
def bomGatesAreKeptWrong : ChangeSpec := { name := "bomGatesAreKept", fn := fun _ => fun
  | [d1, d2, d3, d4] => { results := [.lit (.bool false)], args := [d1, d2, d3, d4] }
  | _ => none }
def BomGatesAreKeptWrongFalsely : Prop := bomGatesAreKeptRow.holds Tryz.pinned (OpenSpec.ofChange bomGatesAreKeptWrong)

/-- 'provenderlaw4.BomPartMatchesSpec': WHATEVER THE INPUT: true; the input reads as it did. -/
def bomPartMatchesSpecSpec : ChangeSpec := { name := "bomPartMatchesSpec", fn := fun _ => fun
  | [d1, d2, d3] => { results := [.lit (.bool true)], args := [d1, d2, d3] }
  | _ => none }
def bomPartMatchesSpecRow : OpenClaim := { program := "ytojfjgjdheiffaagreatdoor", sum := "12131ea15699cd1429f006330a1bdad430e7c57cc77a3f0091f807938c8ff9a0", func := "provender/provenderlaw4.BomPartMatchesSpec", spec := "bomPartMatchesSpec", inPlace := ["internal/bytealg.CountString", "internal/bytealg.IndexByteString", "internal/bytealg.IndexString", "internal/abi.NoEscape", "internal/bytealg.MakeNoZero"], unfollowed := true, recurses := true, named := ["unicode/utf8.first", "unicode/utf8.acceptRanges", "internal/bytealg.MaxLen", "unicode.CaseRanges"], apart := false, laid := [("unicode/utf8.acceptRanges", laid_unicode_utf8_acceptRanges), ("unicode.CaseRanges", laid_unicode_CaseRanges), ("unicode/utf8.first", laid_unicode_utf8_first)] }
def BomPartMatchesSpecSaid : Prop := bomPartMatchesSpecRow.holds Tryz.pinned (OpenSpec.ofChange bomPartMatchesSpecSpec)

/-- ITS FALSE NEIGHBOUR: 'it returns false'. Refute it at one input. -/
def bomPartMatchesSpecWrong : ChangeSpec := { name := "bomPartMatchesSpec", fn := fun _ => fun
  | [d1, d2, d3] => { results := [.lit (.bool false)], args := [d1, d2, d3] }
  | _ => none }
def BomPartMatchesSpecWrongFalsely : Prop := bomPartMatchesSpecRow.holds Tryz.pinned (OpenSpec.ofChange bomPartMatchesSpecWrong)

/-- 'provenderlaw4.BomApplyMatchesSpec': WHATEVER THE INPUT: true; the input reads as it did. -/
def bomApplyMatchesSpecSpec : ChangeSpec := { name := "bomApplyMatchesSpec", fn := fun _ => fun
  | [d1, d2] => { results := [.lit (.bool true)], args := [d1, d2] }
  | _ => none }
def bomApplyMatchesSpecRow : OpenClaim := { program := "ytojfjgjdheiffaagreatdoor", sum := "12131ea15699cd1429f006330a1bdad430e7c57cc77a3f0091f807938c8ff9a0", func := "provender/provenderlaw4.BomApplyMatchesSpec", spec := "bomApplyMatchesSpec", inPlace := ["internal/bytealg.CountString", "internal/bytealg.IndexByteString", "internal/bytealg.IndexString", "internal/abi.NoEscape", "internal/bytealg.MakeNoZero", "slices.overlaps[provender/api.Component]", "slices.overlaps[provender/api.Edge]"], unfollowed := true, recurses := true, named := ["unicode/utf8.first", "unicode/utf8.acceptRanges", "internal/bytealg.MaxLen", "unicode.CaseRanges"], apart := false, laid := [("unicode/utf8.acceptRanges", laid_unicode_utf8_acceptRanges), ("unicode.CaseRanges", laid_unicode_CaseRanges), ("unicode/utf8.first", laid_unicode_utf8_first)] }
def BomApplyMatchesSpecSaid : Prop := bomApplyMatchesSpecRow.holds Tryz.pinned (OpenSpec.ofChange bomApplyMatchesSpecSpec)

/-- ITS FALSE NEIGHBOUR: 'it returns false'. Refute it at one input. -/
def bomApplyMatchesSpecWrong : ChangeSpec := { name := "bomApplyMatchesSpec", fn := fun _ => fun
  | [d1, d2] => { results := [.lit (.bool false)], args := [d1, d2] }
  | _ => none }
def BomApplyMatchesSpecWrongFalsely : Prop := bomApplyMatchesSpecRow.holds Tryz.pinned (OpenSpec.ofChange bomApplyMatchesSpecWrong)

/-- 'provenderlaw4.BomDiffApplies': WHATEVER THE INPUT: true; the input reads as it did. -/
def bomDiffAppliesSpec : ChangeSpec := { name := "bomDiffApplies", fn := fun _ => fun
  | [d1, d2] => { results := [.lit (.bool true)], args := [d1, d2] }
  | _ => none }
def bomDiffAppliesRow : OpenClaim := { program := "ytojfjgjdheiffaagreatdoor", sum := "12131ea15699cd1429f006330a1bdad430e7c57cc77a3f0091f807938c8ff9a0", func := "provender/provenderlaw4.BomDiffApplies", spec := "bomDiffApplies", inPlace := ["internal/bytealg.CountString", "internal/bytealg.IndexByteString", "internal/bytealg.IndexString", "internal/abi.NoEscape", "internal/bytealg.MakeNoZero", "slices.overlaps[provender/api.Component]", "slices.overlaps[provender/api.Edge]"], unfollowed := true, recurses := true, named := ["unicode/utf8.first", "unicode/utf8.acceptRanges", "internal/bytealg.MaxLen", "unicode.CaseRanges"], apart := false, laid := [("unicode/utf8.acceptRanges", laid_unicode_utf8_acceptRanges), ("unicode.CaseRanges", laid_unicode_CaseRanges), ("unicode/utf8.first", laid_unicode_utf8_first)] }
def BomDiffAppliesSaid : Prop := bomDiffAppliesRow.holds Tryz.pinned (OpenSpec.ofChange bomDiffAppliesSpec)

/-- ITS FALSE NEIGHBOUR: 'it returns false'. Refute it at one input. -/
def bomDiffAppliesWrong : ChangeSpec := { name := "bomDiffApplies", fn := fun _ => fun
  | [d1, d2] => { results := [.lit (.bool false)], args := [d1, d2] }
  | _ => none }
def BomDiffAppliesWrongFalsely : Prop := bomDiffAppliesRow.holds Tryz.pinned (OpenSpec.ofChange bomDiffAppliesWrong)

/-- 'provenderlaw4.BomReachMatchesSpec': WHATEVER THE INPUT: true; the input reads as it did. -/
def bomReachMatchesSpecSpec : ChangeSpec := { name := "bomReachMatchesSpec", fn := fun _ => fun
  | [d1, d2] => { results := [.lit (.bool true)], args := [d1, d2] }
  | _ => none }
def bomReachMatchesSpecRow : OpenClaim := { program := "ytojfjgjdheiffaagreatdoor", sum := "12131ea15699cd1429f006330a1bdad430e7c57cc77a3f0091f807938c8ff9a0", func := "provender/provenderlaw4.BomReachMatchesSpec", spec := "bomReachMatchesSpec", inPlace := ["internal/bytealg.CountString", "internal/bytealg.IndexByteString", "internal/bytealg.IndexString", "internal/abi.NoEscape", "internal/bytealg.MakeNoZero"], unfollowed := true, recurses := true, named := ["unicode/utf8.first", "unicode/utf8.acceptRanges", "internal/bytealg.MaxLen", "unicode.CaseRanges"], apart := false, laid := [("unicode/utf8.acceptRanges", laid_unicode_utf8_acceptRanges), ("unicode.CaseRanges", laid_unicode_CaseRanges), ("unicode/utf8.first", laid_unicode_utf8_first)] }
def BomReachMatchesSpecSaid : Prop := bomReachMatchesSpecRow.holds Tryz.pinned (OpenSpec.ofChange bomReachMatchesSpecSpec)

/-- ITS FALSE NEIGHBOUR: 'it returns false'. Refute it at one input. -/
def bomReachMatchesSpecWrong : ChangeSpec := { name := "bomReachMatchesSpec", fn := fun _ => fun
  | [d1, d2] => { results := [.lit (.bool false)], args := [d1, d2] }
  | _ => none }
def BomReachMatchesSpecWrongFalsely : Prop := bomReachMatchesSpecRow.holds Tryz.pinned (OpenSpec.ofChange bomReachMatchesSpecWrong)

/-- 'provenderlaw4.BomCheckMatchesSpec': WHATEVER THE INPUT: true; the input reads as it did. -/
def bomCheckMatchesSpecSpec : ChangeSpec := { name := "bomCheckMatchesSpec", fn := fun _ => fun
  | [d] => { results := [.lit (.bool true)], args := [d] }
  | _ => none }
def bomCheckMatchesSpecRow : OpenClaim := { program := "ytojfjgjdheiffaagreatdoor", sum := "12131ea15699cd1429f006330a1bdad430e7c57cc77a3f0091f807938c8ff9a0", func := "provender/provenderlaw4.BomCheckMatchesSpec", spec := "bomCheckMatchesSpec", inPlace := ["internal/bytealg.CountString", "internal/bytealg.IndexByteString", "internal/bytealg.IndexString", "internal/abi.NoEscape", "internal/bytealg.MakeNoZero"], unfollowed := true, recurses := true, named := ["unicode/utf8.first", "unicode/utf8.acceptRanges", "internal/bytealg.MaxLen", "unicode.CaseRanges"], apart := false, laid := [("unicode/utf8.acceptRanges", laid_unicode_utf8_acceptRanges), ("unicode.CaseRanges", laid_unicode_CaseRanges), ("unicode/utf8.first", laid_unicode_utf8_first)] }
def BomCheckMatchesSpecSaid : Prop := bomCheckMatchesSpecRow.holds Tryz.pinned (OpenSpec.ofChange bomCheckMatchesSpecSpec)

/-- ITS FALSE NEIGHBOUR: 'it returns false'. Refute it at one input. -/
def bomCheckMatchesSpecWrong : ChangeSpec := { name := "bomCheckMatchesSpec", fn := fun _ => fun
  | [d] => { results := [.lit (.bool false)], args := [d] }
  | _ => none }
def BomCheckMatchesSpecWrongFalsely : Prop := bomCheckMatchesSpecRow.holds Tryz.pinned (OpenSpec.ofChange bomCheckMatchesSpecWrong)

/-- 'provenderlaw4.BomTidyIsRight': WHATEVER THE INPUT: true; the input reads as it did. -/
def bomTidyIsRightSpec : ChangeSpec := { name := "bomTidyIsRight", fn := fun _ => fun
  | [d] => { results := [.lit (.bool true)], args := [d] }
  | _ => none }
def bomTidyIsRightRow : OpenClaim := { program := "ytojfjgjdheiffaagreatdoor", sum := "12131ea15699cd1429f006330a1bdad430e7c57cc77a3f0091f807938c8ff9a0", func := "provender/provenderlaw4.BomTidyIsRight", spec := "bomTidyIsRight", inPlace := ["internal/bytealg.CountString", "internal/bytealg.IndexByteString", "internal/bytealg.IndexString", "internal/abi.NoEscape", "internal/bytealg.MakeNoZero"], unfollowed := true, recurses := true, named := ["unicode/utf8.first", "unicode/utf8.acceptRanges", "internal/bytealg.MaxLen", "unicode.CaseRanges"], apart := false, laid := [("unicode/utf8.acceptRanges", laid_unicode_utf8_acceptRanges), ("unicode.CaseRanges", laid_unicode_CaseRanges), ("unicode/utf8.first", laid_unicode_utf8_first)] }
def BomTidyIsRightSaid : Prop := bomTidyIsRightRow.holds Tryz.pinned (OpenSpec.ofChange bomTidyIsRightSpec)

/-- ITS FALSE NEIGHBOUR: 'it returns false'. Refute it at one input. -/
def bomTidyIsRightWrong : ChangeSpec := { name := "bomTidyIsRight", fn := fun _ => fun
  | [d] => { results := [.lit (.bool false)], args := [d] }
  | _ => none }
def BomTidyIsRightWrongFalsely : Prop := bomTidyIsRightRow.holds Tryz.pinned (OpenSpec.ofChange bomTidyIsRightWrong)

/- THE SECOND FORM. 'bulk': how many values and letters a reading holds, each counted each time it is reached (what is shared counts as often as it is met; a slice's spare places count too). A statement '..UptoSaid' is the law's where the arguments, and the package variables that the reading takes, are together of bulk at most 1048576: NARROWER than '..Said'. Prove '..Said' where nothing that the law and all that it calls make is longer than what came in: it says more and counts as full. Else prove '..UptoSaid'. A law counts once. -/
mutual
def uptoBulk {H : Type} : DataW H → Nat
  | .lit (.string bytes) => bytes.length + 1
  | .lit _ => 1
  | .nil => 1
  | .ptr d => uptoBulk d + 1
  | .slice elems spare => uptoBulkAll elems + uptoBulkAll spare + 1
  | .agg parts => uptoBulkAll parts + 1
  | .iface _ d => uptoBulk d + 1
  | .map entries => uptoBulkEntries entries + 1
  | .held _ => 1
def uptoBulkAll {H : Type} : List (DataW H) → Nat
  | [] => 0
  | d :: r => uptoBulk d + uptoBulkAll r
def uptoBulkEntries {H : Type} : List (Lit × DataW H) → Nat
  | [] => 0
  | x :: r => uptoBulkEntry x + uptoBulkEntries r
def uptoBulkEntry {H : Type} : Lit × DataW H → Nat
  | (.string bytes, d) => bytes.length + uptoBulk d + 1
  | (_, d) => uptoBulk d + 1
 end
def uptoSmall : (H : Type) → List (DataW H) → Bool := fun _ ds => decide (uptoBulkAll ds ≤ 1048576)
def OpenSpec.upto (s : _root_.Go.ChangeSpec) : _root_.Go.OpenSpec := { _root_.Go.OpenSpec.ofChange s with cond := some uptoSmall }

/-- 'provenderlaw4.BomGatesMatchSpec', WHERE WHAT IT READS IS OF BULK AT MOST 1048576: true; the input reads as it did. -/
def bomGatesMatchSpecUptoRow : OpenClaim := { program := "ytojfjgjdheiffaagreatdoor", sum := "12131ea15699cd1429f006330a1bdad430e7c57cc77a3f0091f807938c8ff9a0", func := "provender/provenderlaw4.BomGatesMatchSpec", spec := "bomGatesMatchSpec", inPlace := ["internal/bytealg.CountString", "internal/bytealg.IndexByteString", "internal/bytealg.IndexString", "internal/abi.NoEscape", "internal/bytealg.MakeNoZero"], unfollowed := true, recurses := true, named := ["unicode/utf8.first", "unicode/utf8.acceptRanges", "internal/bytealg.MaxLen", "unicode.CaseRanges"], apart := false, laid := [("unicode/utf8.acceptRanges", laid_unicode_utf8_acceptRanges), ("unicode.CaseRanges", laid_unicode_CaseRanges), ("unicode/utf8.first", laid_unicode_utf8_first)], narrowed := true }
def BomGatesMatchSpecUptoSaid : Prop := bomGatesMatchSpecUptoRow.holds Tryz.pinned (OpenSpec.upto bomGatesMatchSpecSpec)

/-- 'provenderlaw4.BomNeedsMatchSpec', WHERE WHAT IT READS IS OF BULK AT MOST 1048576: true; the input reads as it did. -/
def bomNeedsMatchSpecUptoRow : OpenClaim := { program := "ytojfjgjdheiffaagreatdoor", sum := "12131ea15699cd1429f006330a1bdad430e7c57cc77a3f0091f807938c8ff9a0", func := "provender/provenderlaw4.BomNeedsMatchSpec", spec := "bomNeedsMatchSpec", inPlace := ["internal/bytealg.CountString", "internal/bytealg.IndexByteString", "internal/bytealg.IndexString", "internal/abi.NoEscape", "internal/bytealg.MakeNoZero"], unfollowed := true, recurses := true, named := ["unicode/utf8.first", "unicode/utf8.acceptRanges", "internal/bytealg.MaxLen", "unicode.CaseRanges"], apart := false, laid := [("unicode/utf8.acceptRanges", laid_unicode_utf8_acceptRanges), ("unicode.CaseRanges", laid_unicode_CaseRanges), ("unicode/utf8.first", laid_unicode_utf8_first)], narrowed := true }
def BomNeedsMatchSpecUptoSaid : Prop := bomNeedsMatchSpecUptoRow.holds Tryz.pinned (OpenSpec.upto bomNeedsMatchSpecSpec)

/-- 'provenderlaw4.BomPathsMatchSpec', WHERE WHAT IT READS IS OF BULK AT MOST 1048576: true; the input reads as it did. -/
def bomPathsMatchSpecUptoRow : OpenClaim := { program := "ytojfjgjdheiffaagreatdoor", sum := "12131ea15699cd1429f006330a1bdad430e7c57cc77a3f0091f807938c8ff9a0", func := "provender/provenderlaw4.BomPathsMatchSpec", spec := "bomPathsMatchSpec", inPlace := ["internal/bytealg.CountString", "internal/bytealg.IndexByteString", "internal/bytealg.IndexString", "internal/abi.NoEscape", "internal/bytealg.MakeNoZero"], unfollowed := true, recurses := true, named := ["unicode/utf8.first", "unicode/utf8.acceptRanges", "internal/bytealg.MaxLen", "unicode.CaseRanges"], apart := false, laid := [("unicode/utf8.acceptRanges", laid_unicode_utf8_acceptRanges), ("unicode.CaseRanges", laid_unicode_CaseRanges), ("unicode/utf8.first", laid_unicode_utf8_first)], narrowed := true }
def BomPathsMatchSpecUptoSaid : Prop := bomPathsMatchSpecUptoRow.holds Tryz.pinned (OpenSpec.upto bomPathsMatchSpecSpec)

/-- 'provenderlaw4.BomPathsArePaths', WHERE WHAT IT READS IS OF BULK AT MOST 1048576: true; the input reads as it did. -/
def bomPathsArePathsUptoRow : OpenClaim := { program := "ytojfjgjdheiffaagreatdoor", sum := "12131ea15699cd1429f006330a1bdad430e7c57cc77a3f0091f807938c8ff9a0", func := "provender/provenderlaw4.BomPathsArePaths", spec := "bomPathsArePaths", inPlace := ["internal/bytealg.CountString", "internal/bytealg.IndexByteString", "internal/bytealg.IndexString", "internal/abi.NoEscape", "internal/bytealg.MakeNoZero"], unfollowed := true, recurses := true, named := ["unicode/utf8.first", "unicode/utf8.acceptRanges", "internal/bytealg.MaxLen", "unicode.CaseRanges"], apart := false, laid := [("unicode/utf8.acceptRanges", laid_unicode_utf8_acceptRanges), ("unicode.CaseRanges", laid_unicode_CaseRanges), ("unicode/utf8.first", laid_unicode_utf8_first)], narrowed := true }
def BomPathsArePathsUptoSaid : Prop := bomPathsArePathsUptoRow.holds Tryz.pinned (OpenSpec.upto bomPathsArePathsSpec)

/-- 'provenderlaw4.BomGatesAreKept', WHERE WHAT IT READS IS OF BULK AT MOST 1048576: true; the input reads as it did. -/
def bomGatesAreKeptUptoRow : OpenClaim := { program := "ytojfjgjdheiffaagreatdoor", sum := "12131ea15699cd1429f006330a1bdad430e7c57cc77a3f0091f807938c8ff9a0", func := "provender/provenderlaw4.BomGatesAreKept", spec := "bomGatesAreKept", inPlace := ["internal/bytealg.CountString", "internal/bytealg.IndexByteString", "internal/bytealg.IndexString", "internal/abi.NoEscape", "internal/bytealg.MakeNoZero"], unfollowed := true, recurses := true, named := ["unicode/utf8.first", "unicode/utf8.acceptRanges", "internal/bytealg.MaxLen", "unicode.CaseRanges"], apart := false, laid := [("unicode/utf8.acceptRanges", laid_unicode_utf8_acceptRanges), ("unicode.CaseRanges", laid_unicode_CaseRanges), ("unicode/utf8.first", laid_unicode_utf8_first)], narrowed := true }
def BomGatesAreKeptUptoSaid : Prop := bomGatesAreKeptUptoRow.holds Tryz.pinned (OpenSpec.upto bomGatesAreKeptSpec)

/-- 'provenderlaw4.BomPartMatchesSpec', WHERE WHAT IT READS IS OF BULK AT MOST 1048576: true; the input reads as it did. -/
def bomPartMatchesSpecUptoRow : OpenClaim := { program := "ytojfjgjdheiffaagreatdoor", sum := "12131ea15699cd1429f006330a1bdad430e7c57cc77a3f0091f807938c8ff9a0", func := "provender/provenderlaw4.BomPartMatchesSpec", spec := "bomPartMatchesSpec", inPlace := ["internal/bytealg.CountString", "internal/bytealg.IndexByteString", "internal/bytealg.IndexString", "internal/abi.NoEscape", "internal/bytealg.MakeNoZero"], unfollowed := true, recurses := true, named := ["unicode/utf8.first", "unicode/utf8.acceptRanges", "internal/bytealg.MaxLen", "unicode.CaseRanges"], apart := false, laid := [("unicode/utf8.acceptRanges", laid_unicode_utf8_acceptRanges), ("unicode.CaseRanges", laid_unicode_CaseRanges), ("unicode/utf8.first", laid_unicode_utf8_first)], narrowed := true }
def BomPartMatchesSpecUptoSaid : Prop := bomPartMatchesSpecUptoRow.holds Tryz.pinned (OpenSpec.upto bomPartMatchesSpecSpec)

/-- 'provenderlaw4.BomApplyMatchesSpec', WHERE WHAT IT READS IS OF BULK AT MOST 1048576: true; the input reads as it did. -/
def bomApplyMatchesSpecUptoRow : OpenClaim := { program := "ytojfjgjdheiffaagreatdoor", sum := "12131ea15699cd1429f006330a1bdad430e7c57cc77a3f0091f807938c8ff9a0", func := "provender/provenderlaw4.BomApplyMatchesSpec", spec := "bomApplyMatchesSpec", inPlace := ["internal/bytealg.CountString", "internal/bytealg.IndexByteString", "internal/bytealg.IndexString", "internal/abi.NoEscape", "internal/bytealg.MakeNoZero", "slices.overlaps[provender/api.Component]", "slices.overlaps[provender/api.Edge]"], unfollowed := true, recurses := true, named := ["unicode/utf8.first", "unicode/utf8.acceptRanges", "internal/bytealg.MaxLen", "unicode.CaseRanges"], apart := false, laid := [("unicode/utf8.acceptRanges", laid_unicode_utf8_acceptRanges), ("unicode.CaseRanges", laid_unicode_CaseRanges), ("unicode/utf8.first", laid_unicode_utf8_first)], narrowed := true }
def BomApplyMatchesSpecUptoSaid : Prop := bomApplyMatchesSpecUptoRow.holds Tryz.pinned (OpenSpec.upto bomApplyMatchesSpecSpec)

/-- 'provenderlaw4.BomDiffApplies', WHERE WHAT IT READS IS OF BULK AT MOST 1048576: true; the input reads as it did. -/
def bomDiffAppliesUptoRow : OpenClaim := { program := "ytojfjgjdheiffaagreatdoor", sum := "12131ea15699cd1429f006330a1bdad430e7c57cc77a3f0091f807938c8ff9a0", func := "provender/provenderlaw4.BomDiffApplies", spec := "bomDiffApplies", inPlace := ["internal/bytealg.CountString", "internal/bytealg.IndexByteString", "internal/bytealg.IndexString", "internal/abi.NoEscape", "internal/bytealg.MakeNoZero", "slices.overlaps[provender/api.Component]", "slices.overlaps[provender/api.Edge]"], unfollowed := true, recurses := true, named := ["unicode/utf8.first", "unicode/utf8.acceptRanges", "internal/bytealg.MaxLen", "unicode.CaseRanges"], apart := false, laid := [("unicode/utf8.acceptRanges", laid_unicode_utf8_acceptRanges), ("unicode.CaseRanges", laid_unicode_CaseRanges), ("unicode/utf8.first", laid_unicode_utf8_first)], narrowed := true }
def BomDiffAppliesUptoSaid : Prop := bomDiffAppliesUptoRow.holds Tryz.pinned (OpenSpec.upto bomDiffAppliesSpec)

/-- 'provenderlaw4.BomReachMatchesSpec', WHERE WHAT IT READS IS OF BULK AT MOST 1048576: true; the input reads as it did. -/
def bomReachMatchesSpecUptoRow : OpenClaim := { program := "ytojfjgjdheiffaagreatdoor", sum := "12131ea15699cd1429f006330a1bdad430e7c57cc77a3f0091f807938c8ff9a0", func := "provender/provenderlaw4.BomReachMatchesSpec", spec := "bomReachMatchesSpec", inPlace := ["internal/bytealg.CountString", "internal/bytealg.IndexByteString", "internal/bytealg.IndexString", "internal/abi.NoEscape", "internal/bytealg.MakeNoZero"], unfollowed := true, recurses := true, named := ["unicode/utf8.first", "unicode/utf8.acceptRanges", "internal/bytealg.MaxLen", "unicode.CaseRanges"], apart := false, laid := [("unicode/utf8.acceptRanges", laid_unicode_utf8_acceptRanges), ("unicode.CaseRanges", laid_unicode_CaseRanges), ("unicode/utf8.first", laid_unicode_utf8_first)], narrowed := true }
def BomReachMatchesSpecUptoSaid : Prop := bomReachMatchesSpecUptoRow.holds Tryz.pinned (OpenSpec.upto bomReachMatchesSpecSpec)

/-- 'provenderlaw4.BomCheckMatchesSpec', WHERE WHAT IT READS IS OF BULK AT MOST 1048576: true; the input reads as it did. -/
def bomCheckMatchesSpecUptoRow : OpenClaim := { program := "ytojfjgjdheiffaagreatdoor", sum := "12131ea15699cd1429f006330a1bdad430e7c57cc77a3f0091f807938c8ff9a0", func := "provender/provenderlaw4.BomCheckMatchesSpec", spec := "bomCheckMatchesSpec", inPlace := ["internal/bytealg.CountString", "internal/bytealg.IndexByteString", "internal/bytealg.IndexString", "internal/abi.NoEscape", "internal/bytealg.MakeNoZero"], unfollowed := true, recurses := true, named := ["unicode/utf8.first", "unicode/utf8.acceptRanges", "internal/bytealg.MaxLen", "unicode.CaseRanges"], apart := false, laid := [("unicode/utf8.acceptRanges", laid_unicode_utf8_acceptRanges), ("unicode.CaseRanges", laid_unicode_CaseRanges), ("unicode/utf8.first", laid_unicode_utf8_first)], narrowed := true }
def BomCheckMatchesSpecUptoSaid : Prop := bomCheckMatchesSpecUptoRow.holds Tryz.pinned (OpenSpec.upto bomCheckMatchesSpecSpec)

/-- 'provenderlaw4.BomTidyIsRight', WHERE WHAT IT READS IS OF BULK AT MOST 1048576: true; the input reads as it did. -/
def bomTidyIsRightUptoRow : OpenClaim := { program := "ytojfjgjdheiffaagreatdoor", sum := "12131ea15699cd1429f006330a1bdad430e7c57cc77a3f0091f807938c8ff9a0", func := "provender/provenderlaw4.BomTidyIsRight", spec := "bomTidyIsRight", inPlace := ["internal/bytealg.CountString", "internal/bytealg.IndexByteString", "internal/bytealg.IndexString", "internal/abi.NoEscape", "internal/bytealg.MakeNoZero"], unfollowed := true, recurses := true, named := ["unicode/utf8.first", "unicode/utf8.acceptRanges", "internal/bytealg.MaxLen", "unicode.CaseRanges"], apart := false, laid := [("unicode/utf8.acceptRanges", laid_unicode_utf8_acceptRanges), ("unicode.CaseRanges", laid_unicode_CaseRanges), ("unicode/utf8.first", laid_unicode_utf8_first)], narrowed := true }
def BomTidyIsRightUptoSaid : Prop := bomTidyIsRightUptoRow.holds Tryz.pinned (OpenSpec.upto bomTidyIsRightSpec)

end Rows
end Go.Proofs.YtojfjgjdheiffaaGreatDoor
