/-
  NARROWER THAN 'FOR EVERY INPUT', by the rows' own cells (each row's printed sentence says how): LicenceReadMatchesSpec: laid · LicenceTextsComeBack: loops, laid · LicenceTogetherMatchesSpec: loops, laid · LicenceKnownMatchesSpec: loops, laid.
  DERIVED. THE GIVEN ROWS OF THIS SEAT. 4 by the template 'for every input the law returns true; each argument reads behind the call as it read before'; 0 by the template 'total and deterministic' (their statements: YteimbekcnkogoaaDoorTotals.lean).
  GIVEN WITH THE SEED: the statements are not yours to turn. If you find one false, say at which input.
  Laid BY PROGRAM, IN A SANDBOX (cutbox-rows.mjs): the forced cells as the released guide's own fill.sh prints them over the translation 7962697d8abd541d… (all of the seat's roots in one cut). By AI agents, Wed Nov 11 2026. No macro, syntax, notation, axiom, sorry.
-/
import Derived.Test.YteimbekcnkogoaaDoorChecked
import GoSem.PinnedTables
import GoSem.Claim
import GoSem.ClaimJoined
import GoSem.ClaimMapViews
import Derived.JoinedTies
import Derived.KernelRfl
namespace Go.Proofs.YteimbekcnkogoaaDoor
/- THE CELL 'sum', in the pinned program and in every row, IS THE sha256 OF THE DUMP (.gsa) THAT YteimbekcnkogoaaDoorProg.lean LOADS. Nothing in Lean hashes anything: it is a label: what it is worth is what the hold of that sum in a sandbox is worth. -/
noncomputable def Tryd.pinned : Pinned := { name := "yteimbekcnkogoaadoor", sum := "7962697d8abd541dbe2db33a600866fcdd24af15f62047ed90cde6dd9a3bba02", checked := Tryd.checked }
namespace Rows
def none {H : Type} : Left H := { results := [], args := [] }

/- WHAT THE LISTED PACKAGE-LEVEL VARIABLES READ AS WHEN THE CALL BEGINS. Each datum BY PROGRAM (the guide's laid-datum.mjs) off the statement by which the dump's own 'gosem.cut.vars' lays the variable. In a bare row this is a premise. The card (YteimbekcnkogoaaDoorCards.lean) ties it to the program's text. -/
def laid_unicode_utf8_acceptRanges {H : Type} : DataW H := .agg [.agg [.lit (.int .u8 128), .lit (.int .u8 191)], .agg [.lit (.int .u8 160), .lit (.int .u8 191)], .agg [.lit (.int .u8 128), .lit (.int .u8 159)], .agg [.lit (.int .u8 144), .lit (.int .u8 191)], .agg [.lit (.int .u8 128), .lit (.int .u8 143)], .agg [.lit (.int .u8 0), .lit (.int .u8 0)], .agg [.lit (.int .u8 0), .lit (.int .u8 0)], .agg [.lit (.int .u8 0), .lit (.int .u8 0)], .agg [.lit (.int .u8 0), .lit (.int .u8 0)], .agg [.lit (.int .u8 0), .lit (.int .u8 0)], .agg [.lit (.int .u8 0), .lit (.int .u8 0)], .agg [.lit (.int .u8 0), .lit (.int .u8 0)], .agg [.lit (.int .u8 0), .lit (.int .u8 0)], .agg [.lit (.int .u8 0), .lit (.int .u8 0)], .agg [.lit (.int .u8 0), .lit (.int .u8 0)], .agg [.lit (.int .u8 0), .lit (.int .u8 0)]]
/-- One of Go's own tables, pinned by name: the form's constant. -/
def laid_unicode_CaseRanges : DataW Unit := Go.Pinned.caseRanges
/-- One of Go's own tables, pinned by name: the form's constant. -/
def laid_unicode_utf8_first : DataW Unit := Go.Pinned.utf8First

/-- 'provenderlaw3.LicenceReadMatchesSpec': WHATEVER THE INPUT: true; the input reads as it did. -/
def licenceReadMatchesSpecSpec : ChangeSpec := { name := "licenceReadMatchesSpec", fn := fun _ => fun
  | [d] => { results := [.lit (.bool true)], args := [d] }
  | _ => none }
def licenceReadMatchesSpecRow : OpenClaim := { program := "yteimbekcnkogoaadoor", sum := "7962697d8abd541dbe2db33a600866fcdd24af15f62047ed90cde6dd9a3bba02", func := "provender/provenderlaw3.LicenceReadMatchesSpec", spec := "licenceReadMatchesSpec", inPlace := ["internal/abi.NoEscape", "internal/bytealg.MakeNoZero"], unfollowed := true, recurses := true, named := ["unicode/utf8.first", "unicode/utf8.acceptRanges", "unicode.CaseRanges"], plainKeys := false, apart := false, laid := [("unicode/utf8.acceptRanges", laid_unicode_utf8_acceptRanges), ("unicode.CaseRanges", laid_unicode_CaseRanges), ("unicode/utf8.first", laid_unicode_utf8_first)] }
def LicenceReadMatchesSpecSaid : Prop := licenceReadMatchesSpecRow.holds Tryd.pinned (OpenSpec.ofChange licenceReadMatchesSpecSpec)

/-- ITS FALSE NEIGHBOUR: 'it returns false'. Refute it at one input. -/
def licenceReadMatchesSpecWrong : ChangeSpec := { name := "licenceReadMatchesSpec", fn := fun _ => fun
  | [d] => { results := [.lit (.bool false)], args := [d] }
  | _ => none }
def LicenceReadMatchesSpecWrongFalsely : Prop := licenceReadMatchesSpecRow.holds Tryd.pinned (OpenSpec.ofChange licenceReadMatchesSpecWrong)

/-- 'provenderlaw3.LicenceTextsComeBack': WHATEVER THE INPUT: true; the input reads as it did. -/
def licenceTextsComeBackSpec : ChangeSpec := { name := "licenceTextsComeBack", fn := fun _ => fun
  | [d1, d2] => { results := [.lit (.bool true)], args := [d1, d2] }
  | _ => none }
def licenceTextsComeBackRow : OpenClaim := { program := "yteimbekcnkogoaadoor", sum := "7962697d8abd541dbe2db33a600866fcdd24af15f62047ed90cde6dd9a3bba02", func := "provender/provenderlaw3.LicenceTextsComeBack", spec := "licenceTextsComeBack", inPlace := ["internal/abi.NoEscape", "internal/bytealg.MakeNoZero"], unfollowed := true, recurses := true, named := ["unicode/utf8.first", "unicode/utf8.acceptRanges", "unicode.CaseRanges"], loops := true, plainKeys := false, apart := false, laid := [("unicode/utf8.acceptRanges", laid_unicode_utf8_acceptRanges), ("unicode.CaseRanges", laid_unicode_CaseRanges), ("unicode/utf8.first", laid_unicode_utf8_first)] }
def LicenceTextsComeBackSaid : Prop := licenceTextsComeBackRow.holds Tryd.pinned (OpenSpec.ofChange licenceTextsComeBackSpec)

/-- ITS FALSE NEIGHBOUR: 'it returns false'. Refute it at one input. -/
def licenceTextsComeBackWrong : ChangeSpec := { name := "licenceTextsComeBack", fn := fun _ => fun
  | [d1, d2] => { results := [.lit (.bool false)], args := [d1, d2] }
  | _ => none }
def LicenceTextsComeBackWrongFalsely : Prop := licenceTextsComeBackRow.holds Tryd.pinned (OpenSpec.ofChange licenceTextsComeBackWrong)

/-- 'provenderlaw3.LicenceTogetherMatchesSpec': WHATEVER THE INPUT: true; the input reads as it did. -/
def licenceTogetherMatchesSpecSpec : ChangeSpec := { name := "licenceTogetherMatchesSpec", fn := fun _ => fun
  | [d] => { results := [.lit (.bool true)], args := [d] }
  | _ => none }
def licenceTogetherMatchesSpecRow : OpenClaim := { program := "yteimbekcnkogoaadoor", sum := "7962697d8abd541dbe2db33a600866fcdd24af15f62047ed90cde6dd9a3bba02", func := "provender/provenderlaw3.LicenceTogetherMatchesSpec", spec := "licenceTogetherMatchesSpec", inPlace := ["internal/abi.NoEscape", "internal/bytealg.MakeNoZero"], unfollowed := true, recurses := true, named := ["unicode/utf8.first", "unicode/utf8.acceptRanges", "unicode.CaseRanges"], loops := true, plainKeys := false, apart := false, laid := [("unicode/utf8.acceptRanges", laid_unicode_utf8_acceptRanges), ("unicode.CaseRanges", laid_unicode_CaseRanges), ("unicode/utf8.first", laid_unicode_utf8_first)] }
def LicenceTogetherMatchesSpecSaid : Prop := licenceTogetherMatchesSpecRow.holds Tryd.pinned (OpenSpec.ofChange licenceTogetherMatchesSpecSpec)

/-- ITS FALSE NEIGHBOUR: 'it returns false'. Refute it at one input. -/
def licenceTogetherMatchesSpecWrong : ChangeSpec := { name := "licenceTogetherMatchesSpec", fn := fun _ => fun
  | [d] => { results := [.lit (.bool false)], args := [d] }
  | _ => none }
def LicenceTogetherMatchesSpecWrongFalsely : Prop := licenceTogetherMatchesSpecRow.holds Tryd.pinned (OpenSpec.ofChange licenceTogetherMatchesSpecWrong)

/-- 'provenderlaw3.LicenceKnownMatchesSpec': WHATEVER THE INPUT: true; the input reads as it did. -/
def licenceKnownMatchesSpecSpec : ChangeSpec := { name := "licenceKnownMatchesSpec", fn := fun _ => fun
  | [d1, d2] => { results := [.lit (.bool true)], args := [d1, d2] }
  | _ => none }
def licenceKnownMatchesSpecRow : OpenClaim := { program := "yteimbekcnkogoaadoor", sum := "7962697d8abd541dbe2db33a600866fcdd24af15f62047ed90cde6dd9a3bba02", func := "provender/provenderlaw3.LicenceKnownMatchesSpec", spec := "licenceKnownMatchesSpec", inPlace := ["internal/abi.NoEscape", "internal/bytealg.MakeNoZero"], unfollowed := true, recurses := true, named := ["unicode/utf8.first", "unicode/utf8.acceptRanges", "unicode.CaseRanges"], loops := true, plainKeys := false, apart := false, laid := [("unicode/utf8.acceptRanges", laid_unicode_utf8_acceptRanges), ("unicode.CaseRanges", laid_unicode_CaseRanges), ("unicode/utf8.first", laid_unicode_utf8_first)] }
def LicenceKnownMatchesSpecSaid : Prop := licenceKnownMatchesSpecRow.holds Tryd.pinned (OpenSpec.ofChange licenceKnownMatchesSpecSpec)

/-- ITS FALSE NEIGHBOUR: 'it returns false'. Refute it at one input. -/
def licenceKnownMatchesSpecWrong : ChangeSpec := { name := "licenceKnownMatchesSpec", fn := fun _ => fun
  | [d1, d2] => { results := [.lit (.bool false)], args := [d1, d2] }
  | _ => none }
def LicenceKnownMatchesSpecWrongFalsely : Prop := licenceKnownMatchesSpecRow.holds Tryd.pinned (OpenSpec.ofChange licenceKnownMatchesSpecWrong)

/- THE SECOND FORM. 'bulk': how many values and letters a reading holds, each counted each time it is reached (what is shared counts as often as it is met; a slice's spare places count too). A statement '..UptoSaid' is the law's where the arguments, and the package variables that the reading takes, are together of bulk at most 1048576: NARROWER than '..Said'. Prove '..Said' where nothing that the law and all that it calls make is longer than what came in: it says more and counts as full. Else prove '..UptoSaid'. A law counts once. -/
mutual
def uptoBulk {H : Type} : DataW H → Nat
  | .lit (.string bytes) => bytes.length + 1
  | .lit _ => 1
  | .nil => 1
  | .ptr d => uptoBulk d + 1
  | .slice elems spare => uptoBulkAll elems + uptoBulkAll spare + 1
  | .agg parts => uptoBulkAll parts + 1
  | .iface _ d => uptoBulk d + 1
  | .map entries => uptoBulkEntries entries + 1
  | .held _ => 1
def uptoBulkAll {H : Type} : List (DataW H) → Nat
  | [] => 0
  | d :: r => uptoBulk d + uptoBulkAll r
def uptoBulkEntries {H : Type} : List (Lit × DataW H) → Nat
  | [] => 0
  | x :: r => uptoBulkEntry x + uptoBulkEntries r
def uptoBulkEntry {H : Type} : Lit × DataW H → Nat
  | (.string bytes, d) => bytes.length + uptoBulk d + 1
  | (_, d) => uptoBulk d + 1
 end
def uptoSmall : (H : Type) → List (DataW H) → Bool := fun _ ds => decide (uptoBulkAll ds ≤ 1048576)
def OpenSpec.upto (s : _root_.Go.ChangeSpec) : _root_.Go.OpenSpec := { _root_.Go.OpenSpec.ofChange s with cond := some uptoSmall }

/-- 'provenderlaw3.LicenceReadMatchesSpec', WHERE WHAT IT READS IS OF BULK AT MOST 1048576: true; the input reads as it did. -/
def licenceReadMatchesSpecUptoRow : OpenClaim := { program := "yteimbekcnkogoaadoor", sum := "7962697d8abd541dbe2db33a600866fcdd24af15f62047ed90cde6dd9a3bba02", func := "provender/provenderlaw3.LicenceReadMatchesSpec", spec := "licenceReadMatchesSpec", inPlace := ["internal/abi.NoEscape", "internal/bytealg.MakeNoZero"], unfollowed := true, recurses := true, named := ["unicode/utf8.first", "unicode/utf8.acceptRanges", "unicode.CaseRanges"], plainKeys := false, apart := false, laid := [("unicode/utf8.acceptRanges", laid_unicode_utf8_acceptRanges), ("unicode.CaseRanges", laid_unicode_CaseRanges), ("unicode/utf8.first", laid_unicode_utf8_first)], narrowed := true }
def LicenceReadMatchesSpecUptoSaid : Prop := licenceReadMatchesSpecUptoRow.holds Tryd.pinned (OpenSpec.upto licenceReadMatchesSpecSpec)

/-- 'provenderlaw3.LicenceTextsComeBack', WHERE WHAT IT READS IS OF BULK AT MOST 1048576: true; the input reads as it did. -/
def licenceTextsComeBackUptoRow : OpenClaim := { program := "yteimbekcnkogoaadoor", sum := "7962697d8abd541dbe2db33a600866fcdd24af15f62047ed90cde6dd9a3bba02", func := "provender/provenderlaw3.LicenceTextsComeBack", spec := "licenceTextsComeBack", inPlace := ["internal/abi.NoEscape", "internal/bytealg.MakeNoZero"], unfollowed := true, recurses := true, named := ["unicode/utf8.first", "unicode/utf8.acceptRanges", "unicode.CaseRanges"], loops := true, plainKeys := false, apart := false, laid := [("unicode/utf8.acceptRanges", laid_unicode_utf8_acceptRanges), ("unicode.CaseRanges", laid_unicode_CaseRanges), ("unicode/utf8.first", laid_unicode_utf8_first)], narrowed := true }
def LicenceTextsComeBackUptoSaid : Prop := licenceTextsComeBackUptoRow.holds Tryd.pinned (OpenSpec.upto licenceTextsComeBackSpec)

/-- 'provenderlaw3.LicenceTogetherMatchesSpec', WHERE WHAT IT READS IS OF BULK AT MOST 1048576: true; the input reads as it did. -/
def licenceTogetherMatchesSpecUptoRow : OpenClaim := { program := "yteimbekcnkogoaadoor", sum := "7962697d8abd541dbe2db33a600866fcdd24af15f62047ed90cde6dd9a3bba02", func := "provender/provenderlaw3.LicenceTogetherMatchesSpec", spec := "licenceTogetherMatchesSpec", inPlace := ["internal/abi.NoEscape", "internal/bytealg.MakeNoZero"], unfollowed := true, recurses := true, named := ["unicode/utf8.first", "unicode/utf8.acceptRanges", "unicode.CaseRanges"], loops := true, plainKeys := false, apart := false, laid := [("unicode/utf8.acceptRanges", laid_unicode_utf8_acceptRanges), ("unicode.CaseRanges", laid_unicode_CaseRanges), ("unicode/utf8.first", laid_unicode_utf8_first)], narrowed := true }
def LicenceTogetherMatchesSpecUptoSaid : Prop := licenceTogetherMatchesSpecUptoRow.holds Tryd.pinned (OpenSpec.upto licenceTogetherMatchesSpecSpec)

/-- 'provenderlaw3.LicenceKnownMatchesSpec', WHERE WHAT IT READS IS OF BULK AT MOST 1048576: true; the input reads as it did. -/
def licenceKnownMatchesSpecUptoRow : OpenClaim := { program := "yteimbekcnkogoaadoor", sum := "7962697d8abd541dbe2db33a600866fcdd24af15f62047ed90cde6dd9a3bba02", func := "provender/provenderlaw3.LicenceKnownMatchesSpec", spec := "licenceKnownMatchesSpec", inPlace := ["internal/abi.NoEscape", "internal/bytealg.MakeNoZero"], unfollowed := true, recurses := true, named := ["unicode/utf8.first", "unicode/utf8.acceptRanges", "unicode.CaseRanges"], loops := true, plainKeys := false, apart := false, laid := [("unicode/utf8.acceptRanges", laid_unicode_utf8_acceptRanges), ("unicode.CaseRanges", laid_unicode_CaseRanges), ("unicode/utf8.first", laid_unicode_utf8_first)], narrowed := true }
def LicenceKnownMatchesSpecUptoSaid : Prop := licenceKnownMatchesSpecUptoRow.holds Tryd.pinned (OpenSpec.upto licenceKnownMatchesSpecSpec)

end Rows
end Go.Proofs.YteimbekcnkogoaaDoor
