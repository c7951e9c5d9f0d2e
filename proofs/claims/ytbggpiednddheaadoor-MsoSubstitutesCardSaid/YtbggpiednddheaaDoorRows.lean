/-
  NARROWER THAN 'FOR EVERY INPUT', by the rows' own cells (each row's printed sentence says how): MsoMatches: laid · MsoJoinMatches: laid · MsoTextMatches: laid · MsoExamples: laid · MsoRound: laid · MsoExact: laid · MsoBlocks: laid · MsoFree: laid · MsoVariables: laid · MsoSubstitutes: laid.
  DERIVED. THE GIVEN ROWS OF THIS SEAT. 10 by the template 'for every input the law returns true; each argument reads behind the call as it read before'; 0 by the template 'total and deterministic' (their statements: YtbggpiednddheaaDoorTotals.lean).
  GIVEN WITH THE SEED: the statements are not yours to turn. If you find one false, say at which input.
  Laid BY PROGRAM, IN A SANDBOX (cutbox-rows.mjs): the forced cells as the released guide's own fill.sh prints them over the translation fcf8ed1580863bf2… (all of the seat's roots in one cut). By AI agents, Wed Nov 11 2026. No macro, syntax, notation, axiom, sorry.
-/
import Derived.Test.YtbggpiednddheaaDoorChecked
import GoSem.PinnedTables
import GoSem.Claim
import GoSem.ClaimJoined
import GoSem.ClaimMapViews
import Derived.JoinedTies
import Derived.KernelRfl
namespace Go.Proofs.YtbggpiednddheaaDoor
/- THE CELL 'sum', in the pinned program and in every row, IS THE sha256 OF THE DUMP (.gsa) THAT YtbggpiednddheaaDoorProg.lean LOADS. Nothing in Lean hashes anything: it is a label: what it is worth is what the hold of that sum in a sandbox is worth. -/
noncomputable def Tryd.pinned : Pinned := { name := "ytbggpiednddheaadoor", sum := "fcf8ed1580863bf239a29bf123656c1d98872b2c7e99a681d851a602bc4d1ea7", checked := Tryd.checked }
namespace Rows
def none {H : Type} : Left H := { results := [], args := [] }

/- WHAT THE LISTED PACKAGE-LEVEL VARIABLES READ AS WHEN THE CALL BEGINS. Each datum BY PROGRAM (the guide's laid-datum.mjs) off the statement by which the dump's own 'gosem.cut.vars' lays the variable. In a bare row this is a premise. The card (YtbggpiednddheaaDoorCards.lean) ties it to the program's text. -/
def laid_unicode_utf8_acceptRanges {H : Type} : DataW H := .agg [.agg [.lit (.int .u8 128), .lit (.int .u8 191)], .agg [.lit (.int .u8 160), .lit (.int .u8 191)], .agg [.lit (.int .u8 128), .lit (.int .u8 159)], .agg [.lit (.int .u8 144), .lit (.int .u8 191)], .agg [.lit (.int .u8 128), .lit (.int .u8 143)], .agg [.lit (.int .u8 0), .lit (.int .u8 0)], .agg [.lit (.int .u8 0), .lit (.int .u8 0)], .agg [.lit (.int .u8 0), .lit (.int .u8 0)], .agg [.lit (.int .u8 0), .lit (.int .u8 0)], .agg [.lit (.int .u8 0), .lit (.int .u8 0)], .agg [.lit (.int .u8 0), .lit (.int .u8 0)], .agg [.lit (.int .u8 0), .lit (.int .u8 0)], .agg [.lit (.int .u8 0), .lit (.int .u8 0)], .agg [.lit (.int .u8 0), .lit (.int .u8 0)], .agg [.lit (.int .u8 0), .lit (.int .u8 0)], .agg [.lit (.int .u8 0), .lit (.int .u8 0)]]
/-- One of Go's own tables, pinned by name: the form's constant. -/
def laid_unicode_utf8_first : DataW Unit := Go.Pinned.utf8First

/-- 'sentinellaw14.MsoMatches': WHATEVER THE INPUT: true; the input reads as it did. -/
def msoMatchesSpec : ChangeSpec := { name := "msoMatches", fn := fun _ => fun
  | [d1, d2, d3] => { results := [.lit (.bool true)], args := [d1, d2, d3] }
  | _ => none }
def msoMatchesRow : OpenClaim := { program := "ytbggpiednddheaadoor", sum := "fcf8ed1580863bf239a29bf123656c1d98872b2c7e99a681d851a602bc4d1ea7", func := "sentinel/sentinellaw14.MsoMatches", spec := "msoMatches", inPlace := ["internal/bytealg.IndexByteString", "internal/bytealg.IndexString", "internal/abi.NoEscape", "internal/bytealg.MakeNoZero"], unfollowed := true, recurses := true, named := ["unicode/utf8.first", "unicode/utf8.acceptRanges", "internal/bytealg.MaxLen"], apart := false, laid := [("unicode/utf8.acceptRanges", laid_unicode_utf8_acceptRanges), ("unicode/utf8.first", laid_unicode_utf8_first)] }
def MsoMatchesSaid : Prop := msoMatchesRow.holds Tryd.pinned (OpenSpec.ofChange msoMatchesSpec)

/-- ITS FALSE NEIGHBOUR: 'it returns false'. Refute it at one input. -/
def msoMatchesWrong : ChangeSpec := { name := "msoMatches", fn := fun _ => fun
  | [d1, d2, d3] => { results := [.lit (.bool false)], args := [d1, d2, d3] }
  | _ => none }
def MsoMatchesWrongFalsely : Prop := msoMatchesRow.holds Tryd.pinned (OpenSpec.ofChange msoMatchesWrong)

/-- 'sentinellaw14.MsoJoinMatches': WHATEVER THE INPUT: true; the input reads as it did. -/
def msoJoinMatchesSpec : ChangeSpec := { name := "msoJoinMatches", fn := fun _ => fun
  | [d1, d2, d3] => { results := [.lit (.bool true)], args := [d1, d2, d3] }
  | _ => none }
def msoJoinMatchesRow : OpenClaim := { program := "ytbggpiednddheaadoor", sum := "fcf8ed1580863bf239a29bf123656c1d98872b2c7e99a681d851a602bc4d1ea7", func := "sentinel/sentinellaw14.MsoJoinMatches", spec := "msoJoinMatches", inPlace := ["internal/bytealg.IndexByteString", "internal/bytealg.IndexString", "internal/abi.NoEscape", "internal/bytealg.MakeNoZero"], unfollowed := true, recurses := true, named := ["unicode/utf8.first", "unicode/utf8.acceptRanges", "internal/bytealg.MaxLen"], apart := false, laid := [("unicode/utf8.acceptRanges", laid_unicode_utf8_acceptRanges), ("unicode/utf8.first", laid_unicode_utf8_first)] }
def MsoJoinMatchesSaid : Prop := msoJoinMatchesRow.holds Tryd.pinned (OpenSpec.ofChange msoJoinMatchesSpec)

/-- ITS FALSE NEIGHBOUR: 'it returns false'. Refute it at one input. -/
def msoJoinMatchesWrong : ChangeSpec := { name := "msoJoinMatches", fn := fun _ => fun
  | [d1, d2, d3] => { results := [.lit (.bool false)], args := [d1, d2, d3] }
  | _ => none }
def MsoJoinMatchesWrongFalsely : Prop := msoJoinMatchesRow.holds Tryd.pinned (OpenSpec.ofChange msoJoinMatchesWrong)

/-- 'sentinellaw14.MsoTextMatches': WHATEVER THE INPUT: true; the input reads as it did. -/
def msoTextMatchesSpec : ChangeSpec := { name := "msoTextMatches", fn := fun _ => fun
  | [d1, d2] => { results := [.lit (.bool true)], args := [d1, d2] }
  | _ => none }
def msoTextMatchesRow : OpenClaim := { program := "ytbggpiednddheaadoor", sum := "fcf8ed1580863bf239a29bf123656c1d98872b2c7e99a681d851a602bc4d1ea7", func := "sentinel/sentinellaw14.MsoTextMatches", spec := "msoTextMatches", inPlace := ["internal/abi.NoEscape", "internal/bytealg.MakeNoZero", "internal/bytealg.IndexByteString", "internal/bytealg.IndexString"], unfollowed := true, recurses := true, named := ["unicode/utf8.first", "unicode/utf8.acceptRanges", "internal/bytealg.MaxLen"], apart := false, laid := [("unicode/utf8.acceptRanges", laid_unicode_utf8_acceptRanges), ("unicode/utf8.first", laid_unicode_utf8_first)] }
def MsoTextMatchesSaid : Prop := msoTextMatchesRow.holds Tryd.pinned (OpenSpec.ofChange msoTextMatchesSpec)

/-- ITS FALSE NEIGHBOUR: 'it returns false'. Refute it at one input. -/
def msoTextMatchesWrong : ChangeSpec := { name := "msoTextMatches", fn := fun _ => fun
  | [d1, d2] => { results := [.lit (.bool false)], args := [d1, d2] }
  | _ => none }
def MsoTextMatchesWrongFalsely : Prop := msoTextMatchesRow.holds Tryd.pinned (OpenSpec.ofChange msoTextMatchesWrong)

/-- 'sentinellaw14.MsoExamples': WHATEVER THE INPUT: true; the input reads as it did. -/
def msoExamplesSpec : ChangeSpec := { name := "msoExamples", fn := fun _ => fun
  | [] => { results := [.lit (.bool true)], args := [] }
  | _ => none }
def msoExamplesRow : OpenClaim := { program := "ytbggpiednddheaadoor", sum := "fcf8ed1580863bf239a29bf123656c1d98872b2c7e99a681d851a602bc4d1ea7", func := "sentinel/sentinellaw14.MsoExamples", spec := "msoExamples", inPlace := ["internal/bytealg.IndexByteString", "internal/bytealg.IndexString", "internal/abi.NoEscape", "internal/bytealg.MakeNoZero"], unfollowed := true, recurses := true, named := ["unicode/utf8.first", "unicode/utf8.acceptRanges", "internal/bytealg.MaxLen"], apart := false, laid := [("unicode/utf8.acceptRanges", laid_unicode_utf8_acceptRanges), ("unicode/utf8.first", laid_unicode_utf8_first)] }
def MsoExamplesSaid : Prop := msoExamplesRow.holds Tryd.pinned (OpenSpec.ofChange msoExamplesSpec)

/-- ITS FALSE NEIGHBOUR: 'it returns false'. Refute it at one input. -/
def msoExamplesWrong : ChangeSpec := { name := "msoExamples", fn := fun _ => fun
  | [] => { results := [.lit (.bool false)], args := [] }
  | _ => none }
def MsoExamplesWrongFalsely : Prop := msoExamplesRow.holds Tryd.pinned (OpenSpec.ofChange msoExamplesWrong)

/-- 'sentinellaw14.MsoRound': WHATEVER THE INPUT: true; the input reads as it did. -/
def msoRoundSpec : ChangeSpec := { name := "msoRound", fn := fun _ => fun
  | [d] => { results := [.lit (.bool true)], args := [d] }
  | _ => none }
def msoRoundRow : OpenClaim := { program := "ytbggpiednddheaadoor", sum := "fcf8ed1580863bf239a29bf123656c1d98872b2c7e99a681d851a602bc4d1ea7", func := "sentinel/sentinellaw14.MsoRound", spec := "msoRound", inPlace := ["internal/bytealg.IndexByteString", "internal/bytealg.IndexString", "internal/abi.NoEscape", "internal/bytealg.MakeNoZero"], unfollowed := true, recurses := true, named := ["unicode/utf8.first", "unicode/utf8.acceptRanges", "internal/bytealg.MaxLen"], apart := false, laid := [("unicode/utf8.acceptRanges", laid_unicode_utf8_acceptRanges), ("unicode/utf8.first", laid_unicode_utf8_first)] }
def MsoRoundSaid : Prop := msoRoundRow.holds Tryd.pinned (OpenSpec.ofChange msoRoundSpec)

/-- ITS FALSE NEIGHBOUR: 'it returns false'. Refute it at one input. -/
def msoRoundWrong : ChangeSpec := { name := "msoRound", fn := fun _ => fun
  | [d] => { results := [.lit (.bool false)], args := [d] }
  | _ => none }
def MsoRoundWrongFalsely : Prop := msoRoundRow.holds Tryd.pinned (OpenSpec.ofChange msoRoundWrong)

/-- 'sentinellaw14.MsoExact': WHATEVER THE INPUT: true; the input reads as it did. -/
def msoExactSpec : ChangeSpec := { name := "msoExact", fn := fun _ => fun
  | [d] => { results := [.lit (.bool true)], args := [d] }
  | _ => none }
def msoExactRow : OpenClaim := { program := "ytbggpiednddheaadoor", sum := "fcf8ed1580863bf239a29bf123656c1d98872b2c7e99a681d851a602bc4d1ea7", func := "sentinel/sentinellaw14.MsoExact", spec := "msoExact", inPlace := ["internal/bytealg.IndexByteString", "internal/bytealg.IndexString", "internal/abi.NoEscape", "internal/bytealg.MakeNoZero"], unfollowed := true, recurses := true, named := ["unicode/utf8.first", "unicode/utf8.acceptRanges", "internal/bytealg.MaxLen"], apart := false, laid := [("unicode/utf8.acceptRanges", laid_unicode_utf8_acceptRanges), ("unicode/utf8.first", laid_unicode_utf8_first)] }
def MsoExactSaid : Prop := msoExactRow.holds Tryd.pinned (OpenSpec.ofChange msoExactSpec)

/-- ITS FALSE NEIGHBOUR: 'it returns false'. Refute it at one input. -/
def msoExactWrong : ChangeSpec := { name := "msoExact", fn := fun _ => fun
  | [d] => { results := [.lit (.bool false)], args := [d] }
  | _ => none }
def MsoExactWrongFalsely : Prop := msoExactRow.holds Tryd.pinned (OpenSpec.ofChange msoExactWrong)

/-- 'sentinellaw14.MsoBlocks': WHATEVER THE INPUT: true; the input reads as it did. -/
def msoBlocksSpec : ChangeSpec := { name := "msoBlocks", fn := fun _ => fun
  | [d] => { results := [.lit (.bool true)], args := [d] }
  | _ => none }
def msoBlocksRow : OpenClaim := { program := "ytbggpiednddheaadoor", sum := "fcf8ed1580863bf239a29bf123656c1d98872b2c7e99a681d851a602bc4d1ea7", func := "sentinel/sentinellaw14.MsoBlocks", spec := "msoBlocks", inPlace := ["internal/abi.NoEscape", "internal/bytealg.MakeNoZero", "internal/bytealg.IndexByteString", "internal/bytealg.IndexString"], unfollowed := true, recurses := true, named := ["unicode/utf8.first", "unicode/utf8.acceptRanges", "internal/bytealg.MaxLen"], apart := false, laid := [("unicode/utf8.acceptRanges", laid_unicode_utf8_acceptRanges), ("unicode/utf8.first", laid_unicode_utf8_first)] }
def MsoBlocksSaid : Prop := msoBlocksRow.holds Tryd.pinned (OpenSpec.ofChange msoBlocksSpec)

/-- ITS FALSE NEIGHBOUR: 'it returns false'. Refute it at one input. -/
def msoBlocksWrong : ChangeSpec := { name := "msoBlocks", fn := fun _ => fun
  | [d] => { results := [.lit (.bool false)], args := [d] }
  | _ => none }
def MsoBlocksWrongFalsely : Prop := msoBlocksRow.holds Tryd.pinned (OpenSpec.ofChange msoBlocksWrong)

/-- 'sentinellaw14.MsoFree': WHATEVER THE INPUT: true; the input reads as it did. -/
def msoFreeSpec : ChangeSpec := { name := "msoFree", fn := fun _ => fun
  | [d1, d2, d3] => { results := [.lit (.bool true)], args := [d1, d2, d3] }
  | _ => none }
def msoFreeRow : OpenClaim := { program := "ytbggpiednddheaadoor", sum := "fcf8ed1580863bf239a29bf123656c1d98872b2c7e99a681d851a602bc4d1ea7", func := "sentinel/sentinellaw14.MsoFree", spec := "msoFree", inPlace := ["internal/abi.NoEscape", "internal/bytealg.MakeNoZero", "internal/bytealg.IndexByteString", "internal/bytealg.IndexString"], unfollowed := true, recurses := true, named := ["unicode/utf8.first", "unicode/utf8.acceptRanges", "internal/bytealg.MaxLen"], apart := false, laid := [("unicode/utf8.acceptRanges", laid_unicode_utf8_acceptRanges), ("unicode/utf8.first", laid_unicode_utf8_first)] }
def MsoFreeSaid : Prop := msoFreeRow.holds Tryd.pinned (OpenSpec.ofChange msoFreeSpec)

/-- ITS FALSE NEIGHBOUR: 'it returns false'. Refute it at one input. -/
def msoFreeWrong : ChangeSpec := { name := "msoFree", fn := fun _ => fun
  | [d1, d2, d3] => { results := [.lit (.bool false)], args := [d1, d2, d3] }
  | _ => none }
def MsoFreeWrongFalsely : Prop := msoFreeRow.holds Tryd.pinned (OpenSpec.ofChange msoFreeWrong)

/-- 'sentinellaw14.MsoVariables': WHATEVER THE INPUT: true; the input reads as it did. -/
def msoVariablesSpec : ChangeSpec := { name := "msoVariables", fn := fun _ => fun
  | [d1, d2] => { results := [.lit (.bool true)], args := [d1, d2] }
  | _ => none }
def msoVariablesRow : OpenClaim := { program := "ytbggpiednddheaadoor", sum := "fcf8ed1580863bf239a29bf123656c1d98872b2c7e99a681d851a602bc4d1ea7", func := "sentinel/sentinellaw14.MsoVariables", spec := "msoVariables", inPlace := ["internal/abi.NoEscape", "internal/bytealg.MakeNoZero", "internal/bytealg.IndexByteString", "internal/bytealg.IndexString"], unfollowed := true, recurses := true, named := ["internal/bytealg.MaxLen", "unicode/utf8.first", "unicode/utf8.acceptRanges"], apart := false, laid := [("unicode/utf8.acceptRanges", laid_unicode_utf8_acceptRanges), ("unicode/utf8.first", laid_unicode_utf8_first)] }
def MsoVariablesSaid : Prop := msoVariablesRow.holds Tryd.pinned (OpenSpec.ofChange msoVariablesSpec)

/-- ITS FALSE NEIGHBOUR: 'it returns false'. Refute it at one input. -/
def msoVariablesWrong : ChangeSpec := { name := "msoVariables", fn := fun _ => fun
  | [d1, d2] => { results := [.lit (.bool false)], args := [d1, d2] }
  | _ => none }
def MsoVariablesWrongFalsely : Prop := msoVariablesRow.holds Tryd.pinned (OpenSpec.ofChange msoVariablesWrong)

/-- 'sentinellaw14.MsoSubstitutes': WHATEVER THE INPUT: true; the input reads as it did. -/
def msoSubstitutesSpec : ChangeSpec := { name := "msoSubstitutes", fn := fun _ => fun
  | [d1, d2] => { results := [.lit (.bool true)], args := [d1, d2] }
  | _ => none }
def msoSubstitutesRow : OpenClaim := { program := "ytbggpiednddheaadoor", sum := "fcf8ed1580863bf239a29bf123656c1d98872b2c7e99a681d851a602bc4d1ea7", func := "sentinel/sentinellaw14.MsoSubstitutes", spec := "msoSubstitutes", inPlace := ["internal/abi.NoEscape", "internal/bytealg.MakeNoZero", "internal/bytealg.IndexByteString", "internal/bytealg.IndexString"], unfollowed := true, recurses := true, named := ["unicode/utf8.first", "unicode/utf8.acceptRanges", "internal/bytealg.MaxLen"], apart := false, laid := [("unicode/utf8.acceptRanges", laid_unicode_utf8_acceptRanges), ("unicode/utf8.first", laid_unicode_utf8_first)] }
def MsoSubstitutesSaid : Prop := msoSubstitutesRow.holds Tryd.pinned (OpenSpec.ofChange msoSubstitutesSpec)

/-- ITS FALSE NEIGHBOUR: 'it returns false'. Refute it at one input. -/
def msoSubstitutesWrong : ChangeSpec := { name := "msoSubstitutes", fn := fun _ => fun
  | [d1, d2] => { results := [.lit (.bool false)], args := [d1, d2] }
  | _ => none }
def MsoSubstitutesWrongFalsely : Prop := msoSubstitutesRow.holds Tryd.pinned (OpenSpec.ofChange msoSubstitutesWrong)

/- THE SECOND FORM. 'bulk': how many values and letters a reading holds, each counted each time it is reached (what is shared counts as often as it is met; a slice's spare places count too). A statement '..UptoSaid' is the law's where the arguments, and the package variables that the reading takes, are together of bulk at most 1048576: NARROWER than '..Said'. Prove '..Said' where nothing that the law and all that it calls make is longer than what came in: it says more and counts as full. Else prove '..UptoSaid'. A law counts once. -/
mutual
def uptoBulk {H : Type} : DataW H → Nat
  | .lit (.string bytes) => bytes.length + 1
  | .lit _ => 1
  | .nil => 1
  | .ptr d => uptoBulk d + 1
  | .slice elems spare => uptoBulkAll elems + uptoBulkAll spare + 1
  | .agg parts => uptoBulkAll parts + 1
  | .iface _ d => uptoBulk d + 1
  | .map entries => uptoBulkEntries entries + 1
  | .held _ => 1
def uptoBulkAll {H : Type} : List (DataW H) → Nat
  | [] => 0
  | d :: r => uptoBulk d + uptoBulkAll r
def uptoBulkEntries {H : Type} : List (Lit × DataW H) → Nat
  | [] => 0
  | x :: r => uptoBulkEntry x + uptoBulkEntries r
def uptoBulkEntry {H : Type} : Lit × DataW H → Nat
  | (.string bytes, d) => bytes.length + uptoBulk d + 1
  | (_, d) => uptoBulk d + 1
 end
def uptoSmall : (H : Type) → List (DataW H) → Bool := fun _ ds => decide (uptoBulkAll ds ≤ 1048576)
def OpenSpec.upto (s : _root_.Go.ChangeSpec) : _root_.Go.OpenSpec := { _root_.Go.OpenSpec.ofChange s with cond := some uptoSmall }

/-- 'sentinellaw14.MsoMatches', WHERE WHAT IT READS IS OF BULK AT MOST 1048576: true; the input reads as it did. -/
def msoMatchesUptoRow : OpenClaim := { program := "ytbggpiednddheaadoor", sum := "fcf8ed1580863bf239a29bf123656c1d98872b2c7e99a681d851a602bc4d1ea7", func := "sentinel/sentinellaw14.MsoMatches", spec := "msoMatches", inPlace := ["internal/bytealg.IndexByteString", "internal/bytealg.IndexString", "internal/abi.NoEscape", "internal/bytealg.MakeNoZero"], unfollowed := true, recurses := true, named := ["unicode/utf8.first", "unicode/utf8.acceptRanges", "internal/bytealg.MaxLen"], apart := false, laid := [("unicode/utf8.acceptRanges", laid_unicode_utf8_acceptRanges), ("unicode/utf8.first", laid_unicode_utf8_first)], narrowed := true }
def MsoMatchesUptoSaid : Prop := msoMatchesUptoRow.holds Tryd.pinned (OpenSpec.upto msoMatchesSpec)

/-- 'sentinellaw14.MsoJoinMatches', WHERE WHAT IT READS IS OF BULK AT MOST 1048576: true; the input reads as it did. -/
def msoJoinMatchesUptoRow : OpenClaim := { program := "ytbggpiednddheaadoor", sum := "fcf8ed1580863bf239a29bf123656c1d98872b2c7e99a681d851a602bc4d1ea7", func := "sentinel/sentinellaw14.MsoJoinMatches", spec := "msoJoinMatches", inPlace := ["internal/bytealg.IndexByteString", "internal/bytealg.IndexString", "internal/abi.NoEscape", "internal/bytealg.MakeNoZero"], unfollowed := true, recurses := true, named := ["unicode/utf8.first", "unicode/utf8.acceptRanges", "internal/bytealg.MaxLen"], apart := false, laid := [("unicode/utf8.acceptRanges", laid_unicode_utf8_acceptRanges), ("unicode/utf8.first", laid_unicode_utf8_first)], narrowed := true }
def MsoJoinMatchesUptoSaid : Prop := msoJoinMatchesUptoRow.holds Tryd.pinned (OpenSpec.upto msoJoinMatchesSpec)

/-- 'sentinellaw14.MsoTextMatches', WHERE WHAT IT READS IS OF BULK AT MOST 1048576: true; the input reads as it did. -/
def msoTextMatchesUptoRow : OpenClaim := { program := "ytbggpiednddheaadoor", sum := "fcf8ed1580863bf239a29bf123656c1d98872b2c7e99a681d851a602bc4d1ea7", func := "sentinel/sentinellaw14.MsoTextMatches", spec := "msoTextMatches", inPlace := ["internal/abi.NoEscape", "internal/bytealg.MakeNoZero", "internal/bytealg.IndexByteString", "internal/bytealg.IndexString"], unfollowed := true, recurses := true, named := ["unicode/utf8.first", "unicode/utf8.acceptRanges", "internal/bytealg.MaxLen"], apart := false, laid := [("unicode/utf8.acceptRanges", laid_unicode_utf8_acceptRanges), ("unicode/utf8.first", laid_unicode_utf8_first)], narrowed := true }
def MsoTextMatchesUptoSaid : Prop := msoTextMatchesUptoRow.holds Tryd.pinned (OpenSpec.upto msoTextMatchesSpec)

/-- 'sentinellaw14.MsoExamples', WHERE WHAT IT READS IS OF BULK AT MOST 1048576: true; the input reads as it did. -/
def msoExamplesUptoRow : OpenClaim := { program := "ytbggpiednddheaadoor", sum := "fcf8ed1580863bf239a29bf123656c1d98872b2c7e99a681d851a602bc4d1ea7", func := "sentinel/sentinellaw14.MsoExamples", spec := "msoExamples", inPlace := ["internal/bytealg.IndexByteString", "internal/bytealg.IndexString", "internal/abi.NoEscape", "internal/bytealg.MakeNoZero"], unfollowed := true, recurses := true, named := ["unicode/utf8.first", "unicode/utf8.acceptRanges", "internal/bytealg.MaxLen"], apart := false, laid := [("unicode/utf8.acceptRanges", laid_unicode_utf8_acceptRanges), ("unicode/utf8.first", laid_unicode_utf8_first)], narrowed := true }
def MsoExamplesUptoSaid : Prop := msoExamplesUptoRow.holds Tryd.pinned (OpenSpec.upto msoExamplesSpec)

/-- 'sentinellaw14.MsoRound', WHERE WHAT IT READS IS OF BULK AT MOST 1048576: true; the input reads as it did. -/
def msoRoundUptoRow : OpenClaim := { program := "ytbggpiednddheaadoor", sum := "fcf8ed1580863bf239a29bf123656c1d98872b2c7e99a681d851a602bc4d1ea7", func := "sentinel/sentinellaw14.MsoRound", spec := "msoRound", inPlace := ["internal/bytealg.IndexByteString", "internal/bytealg.IndexString", "internal/abi.NoEscape", "internal/bytealg.MakeNoZero"], unfollowed := true, recurses := true, named := ["unicode/utf8.first", "unicode/utf8.acceptRanges", "internal/bytealg.MaxLen"], apart := false, laid := [("unicode/utf8.acceptRanges", laid_unicode_utf8_acceptRanges), ("unicode/utf8.first", laid_unicode_utf8_first)], narrowed := true }
def MsoRoundUptoSaid : Prop := msoRoundUptoRow.holds Tryd.pinned (OpenSpec.upto msoRoundSpec)

/-- 'sentinellaw14.MsoExact', WHERE WHAT IT READS IS OF BULK AT MOST 1048576: true; the input reads as it did. -/
def msoExactUptoRow : OpenClaim := { program := "ytbggpiednddheaadoor", sum := "fcf8ed1580863bf239a29bf123656c1d98872b2c7e99a681d851a602bc4d1ea7", func := "sentinel/sentinellaw14.MsoExact", spec := "msoExact", inPlace := ["internal/bytealg.IndexByteString", "internal/bytealg.IndexString", "internal/abi.NoEscape", "internal/bytealg.MakeNoZero"], unfollowed := true, recurses := true, named := ["unicode/utf8.first", "unicode/utf8.acceptRanges", "internal/bytealg.MaxLen"], apart := false, laid := [("unicode/utf8.acceptRanges", laid_unicode_utf8_acceptRanges), ("unicode/utf8.first", laid_unicode_utf8_first)], narrowed := true }
def MsoExactUptoSaid : Prop := msoExactUptoRow.holds Tryd.pinned (OpenSpec.upto msoExactSpec)

/-- 'sentinellaw14.MsoBlocks', WHERE WHAT IT READS IS OF BULK AT MOST 1048576: true; the input reads as it did. -/
def msoBlocksUptoRow : OpenClaim := { program := "ytbggpiednddheaadoor", sum := "fcf8ed1580863bf239a29bf123656c1d98872b2c7e99a681d851a602bc4d1ea7", func := "sentinel/sentinellaw14.MsoBlocks", spec := "msoBlocks", inPlace := ["internal/abi.NoEscape", "internal/bytealg.MakeNoZero", "internal/bytealg.IndexByteString", "internal/bytealg.IndexString"], unfollowed := true, recurses := true, named := ["unicode/utf8.first", "unicode/utf8.acceptRanges", "internal/bytealg.MaxLen"], apart := false, laid := [("unicode/utf8.acceptRanges", laid_unicode_utf8_acceptRanges), ("unicode/utf8.first", laid_unicode_utf8_first)], narrowed := true }
def MsoBlocksUptoSaid : Prop := msoBlocksUptoRow.holds Tryd.pinned (OpenSpec.upto msoBlocksSpec)

/-- 'sentinellaw14.MsoFree', WHERE WHAT IT READS IS OF BULK AT MOST 1048576: true; the input reads as it did. -/
def msoFreeUptoRow : OpenClaim := { program := "ytbggpiednddheaadoor", sum := "fcf8ed1580863bf239a29bf123656c1d98872b2c7e99a681d851a602bc4d1ea7", func := "sentinel/sentinellaw14.MsoFree", spec := "msoFree", inPlace := ["internal/abi.NoEscape", "internal/bytealg.MakeNoZero", "internal/bytealg.IndexByteString", "internal/bytealg.IndexString"], unfollowed := true, recurses := true, named := ["unicode/utf8.first", "unicode/utf8.acceptRanges", "internal/bytealg.MaxLen"], apart := false, laid := [("unicode/utf8.acceptRanges", laid_unicode_utf8_acceptRanges), ("unicode/utf8.first", laid_unicode_utf8_first)], narrowed := true }
def MsoFreeUptoSaid : Prop := msoFreeUptoRow.holds Tryd.pinned (OpenSpec.upto msoFreeSpec)

/-- 'sentinellaw14.MsoVariables', WHERE WHAT IT READS IS OF BULK AT MOST 1048576: true; the input reads as it did. -/
def msoVariablesUptoRow : OpenClaim := { program := "ytbggpiednddheaadoor", sum := "fcf8ed1580863bf239a29bf123656c1d98872b2c7e99a681d851a602bc4d1ea7", func := "sentinel/sentinellaw14.MsoVariables", spec := "msoVariables", inPlace := ["internal/abi.NoEscape", "internal/bytealg.MakeNoZero", "internal/bytealg.IndexByteString", "internal/bytealg.IndexString"], unfollowed := true, recurses := true, named := ["internal/bytealg.MaxLen", "unicode/utf8.first", "unicode/utf8.acceptRanges"], apart := false, laid := [("unicode/utf8.acceptRanges", laid_unicode_utf8_acceptRanges), ("unicode/utf8.first", laid_unicode_utf8_first)], narrowed := true }
def MsoVariablesUptoSaid : Prop := msoVariablesUptoRow.holds Tryd.pinned (OpenSpec.upto msoVariablesSpec)

/-- 'sentinellaw14.MsoSubstitutes', WHERE WHAT IT READS IS OF BULK AT MOST 1048576: true; the input reads as it did. -/
def msoSubstitutesUptoRow : OpenClaim := { program := "ytbggpiednddheaadoor", sum := "fcf8ed1580863bf239a29bf123656c1d98872b2c7e99a681d851a602bc4d1ea7", func := "sentinel/sentinellaw14.MsoSubstitutes", spec := "msoSubstitutes", inPlace := ["internal/abi.NoEscape", "internal/bytealg.MakeNoZero", "internal/bytealg.IndexByteString", "internal/bytealg.IndexString"], unfollowed := true, recurses := true, named := ["unicode/utf8.first", "unicode/utf8.acceptRanges", "internal/bytealg.MaxLen"], apart := false, laid := [("unicode/utf8.acceptRanges", laid_unicode_utf8_acceptRanges), ("unicode/utf8.first", laid_unicode_utf8_first)], narrowed := true }
def MsoSubstitutesUptoSaid : Prop := msoSubstitutesUptoRow.holds Tryd.pinned (OpenSpec.upto msoSubstitutesSpec)

end Rows
end Go.Proofs.YtbggpiednddheaaDoor
