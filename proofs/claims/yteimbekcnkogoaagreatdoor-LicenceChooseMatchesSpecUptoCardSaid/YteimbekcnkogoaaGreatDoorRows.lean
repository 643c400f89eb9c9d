/-
  NARROWER THAN 'FOR EVERY INPUT', by the rows' own cells (each row's printed sentence says how): LicenceExpressionsMatchSpec: loops, laid · LicenceObligationsMatchSpec: laid · LicenceWeakerMatchesSpec: loops, laid · LicenceBothAndEither: loops, laid · LicenceWeakerIsKept: loops, laid · LicenceWaysMatchSpec: loops, laid · LicenceWaysAreLeast: loops, laid · LicenceChooseMatchesSpec: loops, laid · LicenceSimpleStandsForTheSame: loops, laid.
  DERIVED. THE GIVEN ROWS OF THIS SEAT. 9 by the template 'for every input the law returns true; each argument reads behind the call as it read before'; 0 by the template 'total and deterministic' (their statements: YteimbekcnkogoaaGreatDoorTotals.lean).
  GIVEN WITH THE SEED: the statements are not yours to turn. If you find one false, say at which input.
  Laid BY PROGRAM, IN A SANDBOX (cutbox-rows.mjs): the forced cells as the released guide's own fill.sh prints them over the translation a8e7bcb3da93e592… (all of the seat's roots in one cut). By AI agents, Wed Nov 11 2026. No macro, syntax, notation, axiom, sorry.
-/
import Derived.Test.YteimbekcnkogoaaGreatDoorChecked
import GoSem.PinnedTables
import GoSem.Claim
import GoSem.ClaimJoined
import GoSem.ClaimMapViews
import Derived.JoinedTies
import Derived.KernelRfl
namespace Go.Proofs.YteimbekcnkogoaaGreatDoor
/- THE CELL 'sum', in the pinned program and in every row, IS THE sha256 OF THE DUMP (.gsa) THAT YteimbekcnkogoaaGreatDoorProg.lean LOADS. Nothing in Lean hashes anything: it is a label: what it is worth is what the hold of that sum in a sandbox is worth. -/
noncomputable def Tryz.pinned : Pinned := { name := "yteimbekcnkogoaagreatdoor", sum := "a8e7bcb3da93e59206deb8a3e673104fe2e484833d1316f4943b25c1dde76b3d", checked := Tryz.checked }
namespace Rows
def none {H : Type} : Left H := { results := [], args := [] }

/- WHAT THE LISTED PACKAGE-LEVEL VARIABLES READ AS WHEN THE CALL BEGINS. Each datum BY PROGRAM (the guide's laid-datum.mjs) off the statement by which the dump's own 'gosem.cut.vars' lays the variable. In a bare row this is a premise. The card (YteimbekcnkogoaaGreatDoorCards.lean) ties it to the program's text. -/
def laid_unicode_utf8_acceptRanges {H : Type} : DataW H := .agg [.agg [.lit (.int .u8 128), .lit (.int .u8 191)], .agg [.lit (.int .u8 160), .lit (.int .u8 191)], .agg [.lit (.int .u8 128), .lit (.int .u8 159)], .agg [.lit (.int .u8 144), .lit (.int .u8 191)], .agg [.lit (.int .u8 128), .lit (.int .u8 143)], .agg [.lit (.int .u8 0), .lit (.int .u8 0)], .agg [.lit (.int .u8 0), .lit (.int .u8 0)], .agg [.lit (.int .u8 0), .lit (.int .u8 0)], .agg [.lit (.int .u8 0), .lit (.int .u8 0)], .agg [.lit (.int .u8 0), .lit (.int .u8 0)], .agg [.lit (.int .u8 0), .lit (.int .u8 0)], .agg [.lit (.int .u8 0), .lit (.int .u8 0)], .agg [.lit (.int .u8 0), .lit (.int .u8 0)], .agg [.lit (.int .u8 0), .lit (.int .u8 0)], .agg [.lit (.int .u8 0), .lit (.int .u8 0)], .agg [.lit (.int .u8 0), .lit (.int .u8 0)]]
/-- One of Go's own tables, pinned by name: the form's constant. -/
def laid_unicode_CaseRanges : DataW Unit := Go.Pinned.caseRanges
/-- One of Go's own tables, pinned by name: the form's constant. -/
def laid_unicode_utf8_first : DataW Unit := Go.Pinned.utf8First

/-- 'provenderlaw3.LicenceExpressionsMatchSpec': WHATEVER THE INPUT: true; the input reads as it did. -/
def licenceExpressionsMatchSpecSpec : ChangeSpec := { name := "licenceExpressionsMatchSpec", fn := fun _ => fun
  | [d] => { results := [.lit (.bool true)], args := [d] }
  | _ => none }
def licenceExpressionsMatchSpecRow : OpenClaim := { program := "yteimbekcnkogoaagreatdoor", sum := "a8e7bcb3da93e59206deb8a3e673104fe2e484833d1316f4943b25c1dde76b3d", func := "provender/provenderlaw3.LicenceExpressionsMatchSpec", spec := "licenceExpressionsMatchSpec", inPlace := ["internal/abi.NoEscape", "internal/bytealg.MakeNoZero"], unfollowed := true, recurses := true, named := ["unicode/utf8.first", "unicode/utf8.acceptRanges", "unicode.CaseRanges"], loops := true, plainKeys := false, apart := false, laid := [("unicode/utf8.acceptRanges", laid_unicode_utf8_acceptRanges), ("unicode.CaseRanges", laid_unicode_CaseRanges), ("unicode/utf8.first", laid_unicode_utf8_first)] }
def LicenceExpressionsMatchSpecSaid : Prop := licenceExpressionsMatchSpecRow.holds Tryz.pinned (OpenSpec.ofChange licenceExpressionsMatchSpecSpec)

/-- ITS FALSE NEIGHBOUR: 'it returns false'. Refute it at one input. -/
def licenceExpressionsMatchSpecWrong : ChangeSpec := { name := "licenceExpressionsMatchSpec", fn := fun _ => fun
  | [d] => { results := [.lit (.bool false)], args := [d] }
  | _ => none }
def LicenceExpressionsMatchSpecWrongFalsely : Prop := licenceExpressionsMatchSpecRow.holds Tryz.pinned (OpenSpec.ofChange licenceExpressionsMatchSpecWrong)

/-- 'provenderlaw3.LicenceObligationsMatchSpec': WHATEVER THE INPUT: true; the input reads as it did. -/
def licenceObligationsMatchSpecSpec : ChangeSpec := { name := "licenceObligationsMatchSpec", fn := fun _ => fun
  | [d1, d2] => { results := [.lit (.bool true)], args := [d1, d2] }
  | _ => none }
def licenceObligationsMatchSpecRow : OpenClaim := { program := "yteimbekcnkogoaagreatdoor", sum := "a8e7bcb3da93e59206deb8a3e673104fe2e484833d1316f4943b25c1dde76b3d", func := "provender/provenderlaw3.LicenceObligationsMatchSpec", spec := "licenceObligationsMatchSpec", inPlace := ["internal/abi.NoEscape", "internal/bytealg.MakeNoZero"], unfollowed := true, recurses := true, named := ["unicode/utf8.first", "unicode/utf8.acceptRanges", "unicode.CaseRanges"], plainKeys := false, apart := false, laid := [("unicode/utf8.acceptRanges", laid_unicode_utf8_acceptRanges), ("unicode.CaseRanges", laid_unicode_CaseRanges), ("unicode/utf8.first", laid_unicode_utf8_first)] }
def LicenceObligationsMatchSpecSaid : Prop := licenceObligationsMatchSpecRow.holds Tryz.pinned (OpenSpec.ofChange licenceObligationsMatchSpecSpec)

/-- ITS FALSE NEIGHBOUR: 'it returns false'. Refute it at one input. -/
def licenceObligationsMatchSpecWrong : ChangeSpec := { name := "licenceObligationsMatchSpec", fn := fun _ => fun
  | [d1, d2] => { results := [.lit (.bool false)], args := [d1, d2] }
  | _ => none }
def LicenceObligationsMatchSpecWrongFalsely : Prop := licenceObligationsMatchSpecRow.holds Tryz.pinned (OpenSpec.ofChange licenceObligationsMatchSpecWrong)

/-- 'provenderlaw3.LicenceWeakerMatchesSpec': WHATEVER THE INPUT: true; the input reads as it did. -/
def licenceWeakerMatchesSpecSpec : ChangeSpec := { name := "licenceWeakerMatchesSpec", fn := fun _ => fun
  | [d1, d2, d3] => { results := [.lit (.bool true)], args := [d1, d2, d3] }
  | _ => none }
def licenceWeakerMatchesSpecRow : OpenClaim := { program := "yteimbekcnkogoaagreatdoor", sum := "a8e7bcb3da93e59206deb8a3e673104fe2e484833d1316f4943b25c1dde76b3d", func := "provender/provenderlaw3.LicenceWeakerMatchesSpec", spec := "licenceWeakerMatchesSpec", inPlace := ["internal/abi.NoEscape", "internal/bytealg.MakeNoZero"], unfollowed := true, recurses := true, named := ["unicode/utf8.first", "unicode/utf8.acceptRanges", "unicode.CaseRanges"], loops := true, plainKeys := false, apart := false, laid := [("unicode/utf8.acceptRanges", laid_unicode_utf8_acceptRanges), ("unicode.CaseRanges", laid_unicode_CaseRanges), ("unicode/utf8.first", laid_unicode_utf8_first)] }
def LicenceWeakerMatchesSpecSaid : Prop := licenceWeakerMatchesSpecRow.holds Tryz.pinned (OpenSpec.ofChange licenceWeakerMatchesSpecSpec)

/-- ITS FALSE NEIGHBOUR: 'it returns false'. Refute it at one input. -/
def licenceWeakerMatchesSpecWrong : ChangeSpec := { name := "licenceWeakerMatchesSpec", fn := fun _ => fun
  | [d1, d2, d3] => { results := [.lit (.bool false)], args := [d1, d2, d3] }
  | _ => none }
def LicenceWeakerMatchesSpecWrongFalsely : Prop := licenceWeakerMatchesSpecRow.holds Tryz.pinned (OpenSpec.ofChange licenceWeakerMatchesSpecWrong)

/-- 'provenderlaw3.LicenceBothAndEither': WHATEVER THE INPUT: true; the input reads as it did. -/
def licenceBothAndEitherSpec : ChangeSpec := { name := "licenceBothAndEither", fn := fun _ => fun
  | [d1, d2, d3, d4] => { results := [.lit (.bool true)], args := [d1, d2, d3, d4] }
  | _ => none }
def licenceBothAndEitherRow : OpenClaim := { program := "yteimbekcnkogoaagreatdoor", sum := "a8e7bcb3da93e59206deb8a3e673104fe2e484833d1316f4943b25c1dde76b3d", func := "provender/provenderlaw3.LicenceBothAndEither", spec := "licenceBothAndEither", inPlace := ["internal/abi.NoEscape", "internal/bytealg.MakeNoZero"], unfollowed := true, recurses := true, named := ["unicode/utf8.first", "unicode/utf8.acceptRanges", "unicode.CaseRanges"], loops := true, plainKeys := false, apart := false, laid := [("unicode/utf8.acceptRanges", laid_unicode_utf8_acceptRanges), ("unicode.CaseRanges", laid_unicode_CaseRanges), ("unicode/utf8.first", laid_unicode_utf8_first)] }
def LicenceBothAndEitherSaid : Prop := licenceBothAndEitherRow.holds Tryz.pinned (OpenSpec.ofChange licenceBothAndEitherSpec)

/-- ITS FALSE NEIGHBOUR: 'it returns false'. Refute it at one input. -/
def licenceBothAndEitherWrong : ChangeSpec := { name := "licenceBothAndEither", fn := fun _ => fun
  | [d1, d2, d3, d4] => { results := [.lit (.bool false)], args := [d1, d2, d3, d4] }
  | _ => none }
def LicenceBothAndEitherWrongFalsely : Prop := licenceBothAndEitherRow.holds Tryz.pinned (OpenSpec.ofChange licenceBothAndEitherWrong)

/-- 'provenderlaw3.LicenceWeakerIsKept': WHATEVER THE INPUT: true; the input reads as it did. -/
def licenceWeakerIsKeptSpec : ChangeSpec := { name := "licenceWeakerIsKept", fn := fun _ => fun
  | [d1, d2, d3, d4, d5] => { results := [.lit (.bool true)], args := [d1, d2, d3, d4, d5] }
  | _ => none }
def licenceWeakerIsKeptRow : OpenClaim := { program := "yteimbekcnkogoaagreatdoor", sum := "a8e7bcb3da93e59206deb8a3e673104fe2e484833d1316f4943b25c1dde76b3d", func := "provender/provenderlaw3.LicenceWeakerIsKept", spec := "licenceWeakerIsKept", inPlace := ["internal/abi.NoEscape", "internal/bytealg.MakeNoZero"], unfollowed := true, recurses := true, named := ["unicode/utf8.first", "unicode/utf8.acceptRanges", "unicode.CaseRanges"], loops := true, plainKeys := false, apart := false, laid := [("unicode/utf8.acceptRanges", laid_unicode_utf8_acceptRanges), ("unicode.CaseRanges", laid_unicode_CaseRanges), ("unicode/utf8.first", laid_unicode_utf8_first)] }
def LicenceWeakerIsKeptSaid : Prop := licenceWeakerIsKeptRow.holds Tryz.pinned (OpenSpec.ofChange licenceWeakerIsKeptSpec)

/-- ITS FALSE NEIGHBOUR: 'it returns false'. Refute it at one input. -/
def licenceWeakerIsKeptWrong : ChangeSpec := { name := "licenceWeakerIsKept", fn := fun _ => fun
  | [d1, d2, d3, d4, d5] => { results := [.lit (.bool false)], args := [d1, d2, d3, d4, d5] }
  | _ => none }
def LicenceWeakerIsKeptWrongFalsely : Prop := licenceWeakerIsKeptRow.holds Tryz.pinned (OpenSpec.ofChange licenceWeakerIsKeptWrong)

/-- 'provenderlaw3.LicenceWaysMatchSpec': WHATEVER THE INPUT: true; the input reads as it did. -/
def licenceWaysMatchSpecSpec : ChangeSpec := { name := "licenceWaysMatchSpec", fn := fun _ => fun
  | [d1, d2, d3] => { results := [.lit (.bool true)], args := [d1, d2, d3] }
  | _ => none }
def licenceWaysMatchSpecRow : OpenClaim := { program := "yteimbekcnkogoaagreatdoor", sum := "a8e7bcb3da93e59206deb8a3e673104fe2e484833d1316f4943b25c1dde76b3d", func := "provender/provenderlaw3.LicenceWaysMatchSpec", spec := "licenceWaysMatchSpec", inPlace := ["internal/abi.NoEscape", "internal/bytealg.MakeNoZero"], unfollowed := true, recurses := true, named := ["unicode/utf8.first", "unicode/utf8.acceptRanges", "unicode.CaseRanges"], loops := true, plainKeys := false, apart := false, laid := [("unicode/utf8.acceptRanges", laid_unicode_utf8_acceptRanges), ("unicode.CaseRanges", laid_unicode_CaseRanges), ("unicode/utf8.first", laid_unicode_utf8_first)] }
def LicenceWaysMatchSpecSaid : Prop := licenceWaysMatchSpecRow.holds Tryz.pinned (OpenSpec.ofChange licenceWaysMatchSpecSpec)

/-- ITS FALSE NEIGHBOUR: 'it returns false'. Refute it at one input. -/
def licenceWaysMatchSpecWrong : ChangeSpec := { name := "licenceWaysMatchSpec", fn := fun _ => fun
  | [d1, d2, d3] => { results := [.lit (.bool false)], args := [d1, d2, d3] }
  | _ => none }
def LicenceWaysMatchSpecWrongFalsely : Prop := licenceWaysMatchSpecRow.holds Tryz.pinned (OpenSpec.ofChange licenceWaysMatchSpecWrong)

/-- 'provenderlaw3.LicenceWaysAreLeast': WHATEVER THE INPUT: true; the input reads as it did. -/
def licenceWaysAreLeastSpec : ChangeSpec := { name := "licenceWaysAreLeast", fn := fun _ => fun
  | [d1, d2] => { results := [.lit (.bool true)], args := [d1, d2] }
  | _ => none }
def licenceWaysAreLeastRow : OpenClaim := { program := "yteimbekcnkogoaagreatdoor", sum := "a8e7bcb3da93e59206deb8a3e673104fe2e484833d1316f4943b25c1dde76b3d", func := "provender/provenderlaw3.LicenceWaysAreLeast", spec := "licenceWaysAreLeast", inPlace := ["internal/abi.NoEscape", "internal/bytealg.MakeNoZero"], unfollowed := true, recurses := true, named := ["unicode/utf8.first", "unicode/utf8.acceptRanges", "unicode.CaseRanges"], loops := true, plainKeys := false, apart := false, laid := [("unicode/utf8.acceptRanges", laid_unicode_utf8_acceptRanges), ("unicode.CaseRanges", laid_unicode_CaseRanges), ("unicode/utf8.first", laid_unicode_utf8_first)] }
def LicenceWaysAreLeastSaid : Prop := licenceWaysAreLeastRow.holds Tryz.pinned (OpenSpec.ofChange licenceWaysAreLeastSpec)

/-- ITS FALSE NEIGHBOUR: 'it returns false'. Refute it at one input. -/
def licenceWaysAreLeastWrong : ChangeSpec := { name := "licenceWaysAreLeast", fn := fun _ => fun
  | [d1, d2] => { results := [.lit (.bool false)], args := [d1, d2] }
  | _ => none }
def LicenceWaysAreLeastWrongFalsely : Prop := licenceWaysAreLeastRow.holds Tryz.pinned (OpenSpec.ofChange licenceWaysAreLeastWrong)

/-- 'provenderlaw3.LicenceChooseMatchesSpec': WHATEVER THE INPUT: true; the input reads as it did. -/
def licenceChooseMatchesSpecSpec : ChangeSpec := { name := "licenceChooseMatchesSpec", fn := fun _ => fun
  | [d1, d2, d3, d4] => { results := [.lit (.bool true)], args := [d1, d2, d3, d4] }
  | _ => none }
def licenceChooseMatchesSpecRow : OpenClaim := { program := "yteimbekcnkogoaagreatdoor", sum := "a8e7bcb3da93e59206deb8a3e673104fe2e484833d1316f4943b25c1dde76b3d", func := "provender/provenderlaw3.LicenceChooseMatchesSpec", spec := "licenceChooseMatchesSpec", inPlace := ["internal/abi.NoEscape", "internal/bytealg.MakeNoZero"], unfollowed := true, recurses := true, named := ["unicode/utf8.first", "unicode/utf8.acceptRanges", "unicode.CaseRanges"], loops := true, plainKeys := false, apart := false, laid := [("unicode/utf8.acceptRanges", laid_unicode_utf8_acceptRanges), ("unicode.CaseRanges", laid_unicode_CaseRanges), ("unicode/utf8.first", laid_unicode_utf8_first)] }
def LicenceChooseMatchesSpecSaid : Prop := licenceChooseMatchesSpecRow.holds Tryz.pinned (OpenSpec.ofChange licenceChooseMatchesSpecSpec)

/-- ITS FALSE NEIGHBOUR: 'it returns false'. Refute it at one input. -/
def licenceChooseMatchesSpecWrong : ChangeSpec := { name := "licenceChooseMatchesSpec", fn := fun _ => fun
  | [d1, d2, d3, d4] => { results := [.lit (.bool false)], args := [d1, d2, d3, d4] }
  | _ => none }
def LicenceChooseMatchesSpecWrongFalsely : Prop := licenceChooseMatchesSpecRow.holds Tryz.pinned (OpenSpec.ofChange licenceChooseMatchesSpecWrong)

/-- 'provenderlaw3.LicenceSimpleStandsForTheSame': WHATEVER THE INPUT: true; the input reads as it did. -/
def licenceSimpleStandsForTheSameSpec : ChangeSpec := { name := "licenceSimpleStandsForTheSame", fn := fun _ => fun
  | [d1, d2] => { results := [.lit (.bool true)], args := [d1, d2] }
  | _ => none }
def licenceSimpleStandsForTheSameRow : OpenClaim := { program := "yteimbekcnkogoaagreatdoor", sum := "a8e7bcb3da93e59206deb8a3e673104fe2e484833d1316f4943b25c1dde76b3d", func := "provender/provenderlaw3.LicenceSimpleStandsForTheSame", spec := "licenceSimpleStandsForTheSame", inPlace := ["internal/abi.NoEscape", "internal/bytealg.MakeNoZero"], unfollowed := true, recurses := true, named := ["unicode/utf8.first", "unicode/utf8.acceptRanges", "unicode.CaseRanges"], loops := true, plainKeys := false, apart := false, laid := [("unicode/utf8.acceptRanges", laid_unicode_utf8_acceptRanges), ("unicode.CaseRanges", laid_unicode_CaseRanges), ("unicode/utf8.first", laid_unicode_utf8_first)] }
def LicenceSimpleStandsForTheSameSaid : Prop := licenceSimpleStandsForTheSameRow.holds Tryz.pinned (OpenSpec.ofChange licenceSimpleStandsForTheSameSpec)

/-- ITS FALSE NEIGHBOUR: 'it returns false'. Refute it at one input. -/
def licenceSimpleStandsForTheSameWrong : ChangeSpec := { name := "licenceSimpleStandsForTheSame", fn := fun _ => fun
  | [d1, d2] => { results := [.lit (.bool false)], args := [d1, d2] }
  | _ => none }
def LicenceSimpleStandsForTheSameWrongFalsely : Prop := licenceSimpleStandsForTheSameRow.holds Tryz.pinned (OpenSpec.ofChange licenceSimpleStandsForTheSameWrong)

/- THE SECOND FORM. 'bulk': how many values and letters a reading holds, each counted each time it is reached (what is shared counts as often as it is met; a slice's spare places count too). A statement '..UptoSaid' is the law's where the arguments, and the package variables that the reading takes, are together of bulk at most 1048576: NARROWER than '..Said'. Prove '..Said' where nothing that the law and all that it calls make is longer than what came in: it says more and counts as full. Else prove '..UptoSaid'. A law counts once. -/
mutual
def uptoBulk {H : Type} : DataW H → Nat
  | .lit (.string bytes) => bytes.length + 1
  | .lit _ => 1
  | .nil => 1
  | .ptr d => uptoBulk d + 1
  | .slice elems spare => uptoBulkAll elems + uptoBulkAll spare + 1
  | .agg parts => uptoBulkAll parts + 1
  | .iface _ d => uptoBulk d + 1
  | .map entries => uptoBulkEntries entries + 1
  | .held _ => 1
def uptoBulkAll {H : Type} : List (DataW H) → Nat
  | [] => 0
  | d :: r => uptoBulk d + uptoBulkAll r
def uptoBulkEntries {H : Type} : List (Lit × DataW H) → Nat
  | [] => 0
  | x :: r => uptoBulkEntry x + uptoBulkEntries r
def uptoBulkEntry {H : Type} : Lit × DataW H → Nat
  | (.string bytes, d) => bytes.length + uptoBulk d + 1
  | (_, d) => uptoBulk d + 1
 end
def uptoSmall : (H : Type) → List (DataW H) → Bool := fun _ ds => decide (uptoBulkAll ds ≤ 1048576)
def OpenSpec.upto (s : _root_.Go.ChangeSpec) : _root_.Go.OpenSpec := { _root_.Go.OpenSpec.ofChange s with cond := some uptoSmall }

/-- 'provenderlaw3.LicenceExpressionsMatchSpec', WHERE WHAT IT READS IS OF BULK AT MOST 1048576: true; the input reads as it did. -/
def licenceExpressionsMatchSpecUptoRow : OpenClaim := { program := "yteimbekcnkogoaagreatdoor", sum := "a8e7bcb3da93e59206deb8a3e673104fe2e484833d1316f4943b25c1dde76b3d", func := "provender/provenderlaw3.LicenceExpressionsMatchSpec", spec := "licenceExpressionsMatchSpec", inPlace := ["internal/abi.NoEscape", "internal/bytealg.MakeNoZero"], unfollowed := true, recurses := true, named := ["unicode/utf8.first", "unicode/utf8.acceptRanges", "unicode.CaseRanges"], loops := true, plainKeys := false, apart := false, laid := [("unicode/utf8.acceptRanges", laid_unicode_utf8_acceptRanges), ("unicode.CaseRanges", laid_unicode_CaseRanges), ("unicode/utf8.first", laid_unicode_utf8_first)], narrowed := true }
def LicenceExpressionsMatchSpecUptoSaid : Prop := licenceExpressionsMatchSpecUptoRow.holds Tryz.pinned (OpenSpec.upto licenceExpressionsMatchSpecSpec)

/-- 'provenderlaw3.LicenceObligationsMatchSpec', WHERE WHAT IT READS IS OF BULK AT MOST 1048576: true; the input reads as it did. -/
def licenceObligationsMatchSpecUptoRow : OpenClaim := { program := "yteimbekcnkogoaagreatdoor", sum := "a8e7bcb3da93e59206deb8a3e673104fe2e484833d1316f4943b25c1dde76b3d", func := "provender/provenderlaw3.LicenceObligationsMatchSpec", spec := "licenceObligationsMatchSpec", inPlace := ["internal/abi.NoEscape", "internal/bytealg.MakeNoZero"], unfollowed := true, recurses := true, named := ["unicode/utf8.first", "unicode/utf8.acceptRanges", "unicode.CaseRanges"], plainKeys := false, apart := false, laid := [("unicode/utf8.acceptRanges", laid_unicode_utf8_acceptRanges), ("unicode.CaseRanges", laid_unicode_CaseRanges), ("unicode/utf8.first", laid_unicode_utf8_first)], narrowed := true }
def LicenceObligationsMatchSpecUptoSaid : Prop := licenceObligationsMatchSpecUptoRow.holds Tryz.pinned (OpenSpec.upto licenceObligationsMatchSpecSpec)

/-- 'provenderlaw3.LicenceWeakerMatchesSpec', WHERE WHAT IT READS IS OF BULK AT MOST 1048576: true; the input reads as it did. -/
def licenceWeakerMatchesSpecUptoRow : OpenClaim := { program := "yteimbekcnkogoaagreatdoor", sum := "a8e7bcb3da93e59206deb8a3e673104fe2e484833d1316f4943b25c1dde76b3d", func := "provender/provenderlaw3.LicenceWeakerMatchesSpec", spec := "licenceWeakerMatchesSpec", inPlace := ["internal/abi.NoEscape", "internal/bytealg.MakeNoZero"], unfollowed := true, recurses := true, named := ["unicode/utf8.first", "unicode/utf8.acceptRanges", "unicode.CaseRanges"], loops := true, plainKeys := false, apart := false, laid := [("unicode/utf8.acceptRanges", laid_unicode_utf8_acceptRanges), ("unicode.CaseRanges", laid_unicode_CaseRanges), ("unicode/utf8.first", laid_unicode_utf8_first)], narrowed := true }
def LicenceWeakerMatchesSpecUptoSaid : Prop := licenceWeakerMatchesSpecUptoRow.holds Tryz.pinned (OpenSpec.upto licenceWeakerMatchesSpecSpec)

/-- 'provenderlaw3.LicenceBothAndEither', WHERE WHAT IT READS IS OF BULK AT MOST 1048576: true; the input reads as it did. -/
def licenceBothAndEitherUptoRow : OpenClaim := { program := "yteimbekcnkogoaagreatdoor", sum := "a8e7bcb3da93e59206deb8a3e673104fe2e484833d1316f4943b25c1dde76b3d", func := "provender/provenderlaw3.LicenceBothAndEither", spec := "licenceBothAndEither", inPlace := ["internal/abi.NoEscape", "internal/bytealg.MakeNoZero"], unfollowed := true, recurses := true, named := ["unicode/utf8.first", "unicode/utf8.acceptRanges", "unicode.CaseRanges"], loops := true, plainKeys := false, apart := false, laid := [("unicode/utf8.acceptRanges", laid_unicode_utf8_acceptRanges), ("unicode.CaseRanges", laid_unicode_CaseRanges), ("unicode/utf8.first", laid_unicode_utf8_first)], narrowed := true }
def LicenceBothAndEitherUptoSaid : Prop := licenceBothAndEitherUptoRow.holds Tryz.pinned (OpenSpec.upto licenceBothAndEitherSpec)

/-- 'provenderlaw3.LicenceWeakerIsKept', WHERE WHAT IT READS IS OF BULK AT MOST 1048576: true; the input reads as it did. -/
def licenceWeakerIsKeptUptoRow : OpenClaim := { program := "yteimbekcnkogoaagreatdoor", sum := "a8e7bcb3da93e59206deb8a3e673104fe2e484833d1316f4943b25c1dde76b3d", func := "provender/provenderlaw3.LicenceWeakerIsKept", spec := "licenceWeakerIsKept", inPlace := ["internal/abi.NoEscape", "internal/bytealg.MakeNoZero"], unfollowed := true, recurses := true, named := ["unicode/utf8.first", "unicode/utf8.acceptRanges", "unicode.CaseRanges"], loops := true, plainKeys := false, apart := false, laid := [("unicode/utf8.acceptRanges", laid_unicode_utf8_acceptRanges), ("unicode.CaseRanges", laid_unicode_CaseRanges), ("unicode/utf8.first", laid_unicode_utf8_first)], narrowed := true }
def LicenceWeakerIsKeptUptoSaid : Prop := licenceWeakerIsKeptUptoRow.holds Tryz.pinned (OpenSpec.upto licenceWeakerIsKeptSpec)

/-- 'provenderlaw3.LicenceWaysMatchSpec', WHERE WHAT IT READS IS OF BULK AT MOST 1048576: true; the input reads as it did. -/
def licenceWaysMatchSpecUptoRow : OpenClaim := { program := "yteimbekcnkogoaagreatdoor", sum := "a8e7bcb3da93e59206deb8a3e673104fe2e484833d1316f4943b25c1dde76b3d", func := "provender/provenderlaw3.LicenceWaysMatchSpec", spec := "licenceWaysMatchSpec", inPlace := ["internal/abi.NoEscape", "internal/bytealg.MakeNoZero"], unfollowed := true, recurses := true, named := ["unicode/utf8.first", "unicode/utf8.acceptRanges", "unicode.CaseRanges"], loops := true, plainKeys := false, apart := false, laid := [("unicode/utf8.acceptRanges", laid_unicode_utf8_acceptRanges), ("unicode.CaseRanges", laid_unicode_CaseRanges), ("unicode/utf8.first", laid_unicode_utf8_first)], narrowed := true }
def LicenceWaysMatchSpecUptoSaid : Prop := licenceWaysMatchSpecUptoRow.holds Tryz.pinned (OpenSpec.upto licenceWaysMatchSpecSpec)

/-- 'provenderlaw3.LicenceWaysAreLeast', WHERE WHAT IT READS IS OF BULK AT MOST 1048576: true; the input reads as it did. -/
def licenceWaysAreLeastUptoRow : OpenClaim := { program := "yteimbekcnkogoaagreatdoor", sum := "a8e7bcb3da93e59206deb8a3e673104fe2e484833d1316f4943b25c1dde76b3d", func := "provender/provenderlaw3.LicenceWaysAreLeast", spec := "licenceWaysAreLeast", inPlace := ["internal/abi.NoEscape", "internal/bytealg.MakeNoZero"], unfollowed := true, recurses := true, named := ["unicode/utf8.first", "unicode/utf8.acceptRanges", "unicode.CaseRanges"], loops := true, plainKeys := false, apart := false, laid := [("unicode/utf8.acceptRanges", laid_unicode_utf8_acceptRanges), ("unicode.CaseRanges", laid_unicode_CaseRanges), ("unicode/utf8.first", laid_unicode_utf8_first)], narrowed := true }
def LicenceWaysAreLeastUptoSaid : Prop := licenceWaysAreLeastUptoRow.holds Tryz.pinned (OpenSpec.upto licenceWaysAreLeastSpec)

/-- 'provenderlaw3.LicenceChooseMatchesSpec', WHERE WHAT IT READS IS OF BULK AT MOST 1048576: true; the input reads as it did. -/
def licenceChooseMatchesSpecUptoRow : OpenClaim := { program := "yteimbekcnkogoaagreatdoor", sum := "a8e7bcb3da93e59206deb8a3e673104fe2e484833d1316f4943b25c1dde76b3d", func := "provender/provenderlaw3.LicenceChooseMatchesSpec", spec := "licenceChooseMatchesSpec", inPlace := ["internal/abi.NoEscape", "internal/bytealg.MakeNoZero"], unfollowed := true, recurses := true, named := ["unicode/utf8.first", "unicode/utf8.acceptRanges", "unicode.CaseRanges"], loops := true, plainKeys := false, apart := false, laid := [("unicode/utf8.acceptRanges", laid_unicode_utf8_acceptRanges), ("unicode.CaseRanges", laid_unicode_CaseRanges), ("unicode/utf8.first", laid_unicode_utf8_first)], narrowed := true }
def LicenceChooseMatchesSpecUptoSaid : Prop := licenceChooseMatchesSpecUptoRow.holds Tryz.pinned (OpenSpec.upto licenceChooseMatchesSpecSpec)

/-- 'provenderlaw3.LicenceSimpleStandsForTheSame', WHERE WHAT IT READS IS OF BULK AT MOST 1048576: true; the input reads as it did. -/
def licenceSimpleStandsForTheSameUptoRow : OpenClaim := { program := "yteimbekcnkogoaagreatdoor", sum := "a8e7bcb3da93e59206deb8a3e673104fe2e484833d1316f4943b25c1dde76b3d", func := "provender/provenderlaw3.LicenceSimpleStandsForTheSame", spec := "licenceSimpleStandsForTheSame", inPlace := ["internal/abi.NoEscape", "internal/bytealg.MakeNoZero"], unfollowed := true, recurses := true, named := ["unicode/utf8.first", "unicode/utf8.acceptRanges", "unicode.CaseRanges"], loops := true, plainKeys := false, apart := false, laid := [("unicode/utf8.acceptRanges", laid_unicode_utf8_acceptRanges), ("unicode.CaseRanges", laid_unicode_CaseRanges), ("unicode/utf8.first", laid_unicode_utf8_first)], narrowed := true }
def LicenceSimpleStandsForTheSameUptoSaid : Prop := licenceSimpleStandsForTheSameUptoRow.holds Tryz.pinned (OpenSpec.upto licenceSimpleStandsForTheSameSpec)

end Rows
end Go.Proofs.YteimbekcnkogoaaGreatDoor
