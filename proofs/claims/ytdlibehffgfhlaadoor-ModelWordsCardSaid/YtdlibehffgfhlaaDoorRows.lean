/-
  NARROWER THAN 'FOR EVERY INPUT', by the rows' own cells (each row's printed sentence says how): MsoExamples: laid · ModelWords: laid · ModelTrees: laid · ModelExamples: laid · ModelOrder: laid · ModelPaths: laid · ModelExists: laid · ModelBound: laid · ModelBoolean: laid · ModelMirror: laid.
  DERIVED. THE GIVEN ROWS OF THIS SEAT. 10 by the template 'for every input the law returns true; each argument reads behind the call as it read before'; 0 by the template 'total and deterministic' (their statements: YtdlibehffgfhlaaDoorTotals.lean).
  GIVEN WITH THE SEED: the statements are not yours to turn. If you find one false, say at which input.
  Laid BY PROGRAM, IN A SANDBOX (cutbox-rows.mjs): the forced cells as the released guide's own fill.sh prints them over the translation 4383aff56fc4fd12… (all of the seat's roots in one cut). By AI agents, Wed Nov 11 2026. No macro, syntax, notation, axiom, sorry.
-/
import Derived.Test.YtdlibehffgfhlaaDoorChecked
import GoSem.PinnedTables
import GoSem.Claim
import GoSem.ClaimJoined
import GoSem.ClaimMapViews
import Derived.JoinedTies
import Derived.KernelRfl
namespace Go.Proofs.YtdlibehffgfhlaaDoor
/- THE CELL 'sum', in the pinned program and in every row, IS THE sha256 OF THE DUMP (.gsa) THAT YtdlibehffgfhlaaDoorProg.lean LOADS. Nothing in Lean hashes anything: it is a label: what it is worth is what the hold of that sum in a sandbox is worth. -/
noncomputable def Tryd.pinned : Pinned := { name := "ytdlibehffgfhlaadoor", sum := "4383aff56fc4fd127384de01045c24d8bddcd0929d1863490cf5487229401104", checked := Tryd.checked }
namespace Rows
def none {H : Type} : Left H := { results := [], args := [] }

/- WHAT THE LISTED PACKAGE-LEVEL VARIABLES READ AS WHEN THE CALL BEGINS. Each datum BY PROGRAM (the guide's laid-datum.mjs) off the statement by which the dump's own 'gosem.cut.vars' lays the variable. In a bare row this is a premise. The card (YtdlibehffgfhlaaDoorCards.lean) ties it to the program's text. -/
def laid_unicode_utf8_acceptRanges {H : Type} : DataW H := .agg [.agg [.lit (.int .u8 128), .lit (.int .u8 191)], .agg [.lit (.int .u8 160), .lit (.int .u8 191)], .agg [.lit (.int .u8 128), .lit (.int .u8 159)], .agg [.lit (.int .u8 144), .lit (.int .u8 191)], .agg [.lit (.int .u8 128), .lit (.int .u8 143)], .agg [.lit (.int .u8 0), .lit (.int .u8 0)], .agg [.lit (.int .u8 0), .lit (.int .u8 0)], .agg [.lit (.int .u8 0), .lit (.int .u8 0)], .agg [.lit (.int .u8 0), .lit (.int .u8 0)], .agg [.lit (.int .u8 0), .lit (.int .u8 0)], .agg [.lit (.int .u8 0), .lit (.int .u8 0)], .agg [.lit (.int .u8 0), .lit (.int .u8 0)], .agg [.lit (.int .u8 0), .lit (.int .u8 0)], .agg [.lit (.int .u8 0), .lit (.int .u8 0)], .agg [.lit (.int .u8 0), .lit (.int .u8 0)], .agg [.lit (.int .u8 0), .lit (.int .u8 0)]]
/-- One of Go's own tables, pinned by name: the form's constant. -/
def laid_unicode_utf8_first : DataW Unit := Go.Pinned.utf8First
def laid_math_bits_deBruijn64tab {H : Type} : DataW H := .agg [.lit (.int .u8 0), .lit (.int .u8 1), .lit (.int .u8 56), .lit (.int .u8 2), .lit (.int .u8 57), .lit (.int .u8 49), .lit (.int .u8 28), .lit (.int .u8 3), .lit (.int .u8 61), .lit (.int .u8 58), .lit (.int .u8 42), .lit (.int .u8 50), .lit (.int .u8 38), .lit (.int .u8 29), .lit (.int .u8 17), .lit (.int .u8 4), .lit (.int .u8 62), .lit (.int .u8 47), .lit (.int .u8 59), .lit (.int .u8 36), .lit (.int .u8 45), .lit (.int .u8 43), .lit (.int .u8 51), .lit (.int .u8 22), .lit (.int .u8 53), .lit (.int .u8 39), .lit (.int .u8 33), .lit (.int .u8 30), .lit (.int .u8 24), .lit (.int .u8 18), .lit (.int .u8 12), .lit (.int .u8 5), .lit (.int .u8 63), .lit (.int .u8 55), .lit (.int .u8 48), .lit (.int .u8 27), .lit (.int .u8 60), .lit (.int .u8 41), .lit (.int .u8 37), .lit (.int .u8 16), .lit (.int .u8 46), .lit (.int .u8 35), .lit (.int .u8 44), .lit (.int .u8 21), .lit (.int .u8 52), .lit (.int .u8 32), .lit (.int .u8 23), .lit (.int .u8 11), .lit (.int .u8 54), .lit (.int .u8 26), .lit (.int .u8 40), .lit (.int .u8 15), .lit (.int .u8 34), .lit (.int .u8 20), .lit (.int .u8 31), .lit (.int .u8 10), .lit (.int .u8 25), .lit (.int .u8 14), .lit (.int .u8 19), .lit (.int .u8 9), .lit (.int .u8 13), .lit (.int .u8 8), .lit (.int .u8 7), .lit (.int .u8 6)]

/-- 'sentinellaw14.MsoExamples': WHATEVER THE INPUT: true; the input reads as it did. -/
def msoExamplesSpec : ChangeSpec := { name := "msoExamples", fn := fun _ => fun
  | [] => { results := [.lit (.bool true)], args := [] }
  | _ => none }
def msoExamplesRow : OpenClaim := { program := "ytdlibehffgfhlaadoor", sum := "4383aff56fc4fd127384de01045c24d8bddcd0929d1863490cf5487229401104", func := "sentinel/sentinellaw14.MsoExamples", spec := "msoExamples", inPlace := ["internal/bytealg.IndexByteString", "internal/bytealg.IndexString", "internal/abi.NoEscape", "internal/bytealg.MakeNoZero"], unfollowed := true, recurses := true, named := ["unicode/utf8.first", "unicode/utf8.acceptRanges", "internal/bytealg.MaxLen"], apart := false, laid := [("unicode/utf8.acceptRanges", laid_unicode_utf8_acceptRanges), ("unicode/utf8.first", laid_unicode_utf8_first)] }
def MsoExamplesSaid : Prop := msoExamplesRow.holds Tryd.pinned (OpenSpec.ofChange msoExamplesSpec)

/-- ITS FALSE NEIGHBOUR: 'it returns false'. Refute it at one input. -/
def msoExamplesWrong : ChangeSpec := { name := "msoExamples", fn := fun _ => fun
  | [] => { results := [.lit (.bool false)], args := [] }
  | _ => none }
def MsoExamplesWrongFalsely : Prop := msoExamplesRow.holds Tryd.pinned (OpenSpec.ofChange msoExamplesWrong)

/-- 'sentinellaw16.ModelWords': WHATEVER THE INPUT: true; the input reads as it did. -/
def modelWordsSpec : ChangeSpec := { name := "modelWords", fn := fun _ => fun
  | [d1, d2, d3] => { results := [.lit (.bool true)], args := [d1, d2, d3] }
  | _ => none }
def modelWordsRow : OpenClaim := { program := "ytdlibehffgfhlaadoor", sum := "4383aff56fc4fd127384de01045c24d8bddcd0929d1863490cf5487229401104", func := "sentinel/sentinellaw16.ModelWords", spec := "modelWords", inPlace := ["internal/abi.NoEscape", "internal/bytealg.MakeNoZero", "internal/bytealg.IndexByteString", "internal/bytealg.IndexString"], unfollowed := true, recurses := true, named := ["math/bits.deBruijn64tab", "unicode/utf8.first", "unicode/utf8.acceptRanges", "internal/bytealg.MaxLen"], apart := false, laid := [("math/bits.deBruijn64tab", laid_math_bits_deBruijn64tab), ("unicode/utf8.acceptRanges", laid_unicode_utf8_acceptRanges), ("unicode/utf8.first", laid_unicode_utf8_first)] }
def ModelWordsSaid : Prop := modelWordsRow.holds Tryd.pinned (OpenSpec.ofChange modelWordsSpec)

/-- ITS FALSE NEIGHBOUR: 'it returns false'. Refute it at one input. -/
def modelWordsWrong : ChangeSpec := { name := "modelWords", fn := fun _ => fun
  | [d1, d2, d3] => { results := [.lit (.bool false)], args := [d1, d2, d3] }
  | _ => none }
def ModelWordsWrongFalsely : Prop := modelWordsRow.holds Tryd.pinned (OpenSpec.ofChange modelWordsWrong)

/-- 'sentinellaw16.ModelTrees': WHATEVER THE INPUT: true; the input reads as it did. -/
def modelTreesSpec : ChangeSpec := { name := "modelTrees", fn := fun _ => fun
  | [d1, d2, d3] => { results := [.lit (.bool true)], args := [d1, d2, d3] }
  | _ => none }
def modelTreesRow : OpenClaim := { program := "ytdlibehffgfhlaadoor", sum := "4383aff56fc4fd127384de01045c24d8bddcd0929d1863490cf5487229401104", func := "sentinel/sentinellaw16.ModelTrees", spec := "modelTrees", inPlace := ["internal/bytealg.IndexByteString", "internal/bytealg.IndexString", "internal/abi.NoEscape", "internal/bytealg.MakeNoZero"], unfollowed := true, recurses := true, named := ["math/bits.deBruijn64tab", "unicode/utf8.first", "unicode/utf8.acceptRanges", "internal/bytealg.MaxLen"], apart := false, laid := [("math/bits.deBruijn64tab", laid_math_bits_deBruijn64tab), ("unicode/utf8.acceptRanges", laid_unicode_utf8_acceptRanges), ("unicode/utf8.first", laid_unicode_utf8_first)] }
def ModelTreesSaid : Prop := modelTreesRow.holds Tryd.pinned (OpenSpec.ofChange modelTreesSpec)

/-- ITS FALSE NEIGHBOUR: 'it returns false'. Refute it at one input. -/
def modelTreesWrong : ChangeSpec := { name := "modelTrees", fn := fun _ => fun
  | [d1, d2, d3] => { results := [.lit (.bool false)], args := [d1, d2, d3] }
  | _ => none }
def ModelTreesWrongFalsely : Prop := modelTreesRow.holds Tryd.pinned (OpenSpec.ofChange modelTreesWrong)

/-- 'sentinellaw16.ModelExamples': WHATEVER THE INPUT: true; the input reads as it did. -/
def modelExamplesSpec : ChangeSpec := { name := "modelExamples", fn := fun _ => fun
  | [] => { results := [.lit (.bool true)], args := [] }
  | _ => none }
def modelExamplesRow : OpenClaim := { program := "ytdlibehffgfhlaadoor", sum := "4383aff56fc4fd127384de01045c24d8bddcd0929d1863490cf5487229401104", func := "sentinel/sentinellaw16.ModelExamples", spec := "modelExamples", inPlace := ["internal/abi.NoEscape", "internal/bytealg.MakeNoZero", "internal/bytealg.IndexByteString", "internal/bytealg.IndexString"], unfollowed := true, recurses := true, named := ["math/bits.deBruijn64tab", "unicode/utf8.first", "unicode/utf8.acceptRanges", "internal/bytealg.MaxLen"], apart := false, laid := [("math/bits.deBruijn64tab", laid_math_bits_deBruijn64tab), ("unicode/utf8.acceptRanges", laid_unicode_utf8_acceptRanges), ("unicode/utf8.first", laid_unicode_utf8_first)] }
def ModelExamplesSaid : Prop := modelExamplesRow.holds Tryd.pinned (OpenSpec.ofChange modelExamplesSpec)

/-- ITS FALSE NEIGHBOUR: 'it returns false'. Refute it at one input. -/
def modelExamplesWrong : ChangeSpec := { name := "modelExamples", fn := fun _ => fun
  | [] => { results := [.lit (.bool false)], args := [] }
  | _ => none }
def ModelExamplesWrongFalsely : Prop := modelExamplesRow.holds Tryd.pinned (OpenSpec.ofChange modelExamplesWrong)

/-- 'sentinellaw16.ModelOrder': WHATEVER THE INPUT: true; the input reads as it did. -/
def modelOrderSpec : ChangeSpec := { name := "modelOrder", fn := fun _ => fun
  | [d1, d2] => { results := [.lit (.bool true)], args := [d1, d2] }
  | _ => none }
def modelOrderRow : OpenClaim := { program := "ytdlibehffgfhlaadoor", sum := "4383aff56fc4fd127384de01045c24d8bddcd0929d1863490cf5487229401104", func := "sentinel/sentinellaw16.ModelOrder", spec := "modelOrder", inPlace := ["internal/bytealg.IndexByteString", "internal/bytealg.IndexString", "internal/abi.NoEscape", "internal/bytealg.MakeNoZero"], unfollowed := true, recurses := true, named := ["unicode/utf8.first", "unicode/utf8.acceptRanges", "math/bits.deBruijn64tab", "internal/bytealg.MaxLen"], apart := false, laid := [("math/bits.deBruijn64tab", laid_math_bits_deBruijn64tab), ("unicode/utf8.acceptRanges", laid_unicode_utf8_acceptRanges), ("unicode/utf8.first", laid_unicode_utf8_first)] }
def ModelOrderSaid : Prop := modelOrderRow.holds Tryd.pinned (OpenSpec.ofChange modelOrderSpec)

/-- ITS FALSE NEIGHBOUR: 'it returns false'. Refute it at one input. -/
def modelOrderWrong : ChangeSpec := { name := "modelOrder", fn := fun _ => fun
  | [d1, d2] => { results := [.lit (.bool false)], args := [d1, d2] }
  | _ => none }
def ModelOrderWrongFalsely : Prop := modelOrderRow.holds Tryd.pinned (OpenSpec.ofChange modelOrderWrong)

/-- 'sentinellaw16.ModelPaths': WHATEVER THE INPUT: true; the input reads as it did. -/
def modelPathsSpec : ChangeSpec := { name := "modelPaths", fn := fun _ => fun
  | [d1, d2] => { results := [.lit (.bool true)], args := [d1, d2] }
  | _ => none }
def modelPathsRow : OpenClaim := { program := "ytdlibehffgfhlaadoor", sum := "4383aff56fc4fd127384de01045c24d8bddcd0929d1863490cf5487229401104", func := "sentinel/sentinellaw16.ModelPaths", spec := "modelPaths", inPlace := ["internal/bytealg.IndexByteString", "internal/bytealg.IndexString", "internal/abi.NoEscape", "internal/bytealg.MakeNoZero"], unfollowed := true, recurses := true, named := ["unicode/utf8.first", "unicode/utf8.acceptRanges", "math/bits.deBruijn64tab", "internal/bytealg.MaxLen"], apart := false, laid := [("math/bits.deBruijn64tab", laid_math_bits_deBruijn64tab), ("unicode/utf8.acceptRanges", laid_unicode_utf8_acceptRanges), ("unicode/utf8.first", laid_unicode_utf8_first)] }
def ModelPathsSaid : Prop := modelPathsRow.holds Tryd.pinned (OpenSpec.ofChange modelPathsSpec)

/-- ITS FALSE NEIGHBOUR: 'it returns false'. Refute it at one input. -/
def modelPathsWrong : ChangeSpec := { name := "modelPaths", fn := fun _ => fun
  | [d1, d2] => { results := [.lit (.bool false)], args := [d1, d2] }
  | _ => none }
def ModelPathsWrongFalsely : Prop := modelPathsRow.holds Tryd.pinned (OpenSpec.ofChange modelPathsWrong)

/-- 'sentinellaw16.ModelExists': WHATEVER THE INPUT: true; the input reads as it did. -/
def modelExistsSpec : ChangeSpec := { name := "modelExists", fn := fun _ => fun
  | [d1, d2, d3] => { results := [.lit (.bool true)], args := [d1, d2, d3] }
  | _ => none }
def modelExistsRow : OpenClaim := { program := "ytdlibehffgfhlaadoor", sum := "4383aff56fc4fd127384de01045c24d8bddcd0929d1863490cf5487229401104", func := "sentinel/sentinellaw16.ModelExists", spec := "modelExists", inPlace := ["internal/bytealg.IndexByteString", "internal/bytealg.IndexString", "internal/abi.NoEscape", "internal/bytealg.MakeNoZero"], unfollowed := true, recurses := true, named := ["unicode/utf8.first", "unicode/utf8.acceptRanges", "math/bits.deBruijn64tab", "internal/bytealg.MaxLen"], apart := false, laid := [("math/bits.deBruijn64tab", laid_math_bits_deBruijn64tab), ("unicode/utf8.acceptRanges", laid_unicode_utf8_acceptRanges), ("unicode/utf8.first", laid_unicode_utf8_first)] }
def ModelExistsSaid : Prop := modelExistsRow.holds Tryd.pinned (OpenSpec.ofChange modelExistsSpec)

/-- ITS FALSE NEIGHBOUR: 'it returns false'. Refute it at one input. -/
def modelExistsWrong : ChangeSpec := { name := "modelExists", fn := fun _ => fun
  | [d1, d2, d3] => { results := [.lit (.bool false)], args := [d1, d2, d3] }
  | _ => none }
def ModelExistsWrongFalsely : Prop := modelExistsRow.holds Tryd.pinned (OpenSpec.ofChange modelExistsWrong)

/-- 'sentinellaw16.ModelBound': WHATEVER THE INPUT: true; the input reads as it did. -/
def modelBoundSpec : ChangeSpec := { name := "modelBound", fn := fun _ => fun
  | [d1, d2, d3] => { results := [.lit (.bool true)], args := [d1, d2, d3] }
  | _ => none }
def modelBoundRow : OpenClaim := { program := "ytdlibehffgfhlaadoor", sum := "4383aff56fc4fd127384de01045c24d8bddcd0929d1863490cf5487229401104", func := "sentinel/sentinellaw16.ModelBound", spec := "modelBound", inPlace := ["internal/bytealg.IndexByteString", "internal/bytealg.IndexString", "internal/abi.NoEscape", "internal/bytealg.MakeNoZero"], unfollowed := true, recurses := true, named := ["math/bits.deBruijn64tab", "unicode/utf8.first", "unicode/utf8.acceptRanges", "internal/bytealg.MaxLen"], apart := false, laid := [("math/bits.deBruijn64tab", laid_math_bits_deBruijn64tab), ("unicode/utf8.acceptRanges", laid_unicode_utf8_acceptRanges), ("unicode/utf8.first", laid_unicode_utf8_first)] }
def ModelBoundSaid : Prop := modelBoundRow.holds Tryd.pinned (OpenSpec.ofChange modelBoundSpec)

/-- ITS FALSE NEIGHBOUR: 'it returns false'. Refute it at one input. -/
def modelBoundWrong : ChangeSpec := { name := "modelBound", fn := fun _ => fun
  | [d1, d2, d3] => { results := [.lit (.bool false)], args := [d1, d2, d3] }
  | _ => none }
def ModelBoundWrongFalsely : Prop := modelBoundRow.holds Tryd.pinned (OpenSpec.ofChange modelBoundWrong)

/-- 'sentinellaw16.ModelBoolean': WHATEVER THE INPUT: true; the input reads as it did. -/
def modelBooleanSpec : ChangeSpec := { name := "modelBoolean", fn := fun _ => fun
  | [d1, d2, d3] => { results := [.lit (.bool true)], args := [d1, d2, d3] }
  | _ => none }
def modelBooleanRow : OpenClaim := { program := "ytdlibehffgfhlaadoor", sum := "4383aff56fc4fd127384de01045c24d8bddcd0929d1863490cf5487229401104", func := "sentinel/sentinellaw16.ModelBoolean", spec := "modelBoolean", inPlace := ["internal/bytealg.IndexByteString", "internal/bytealg.IndexString", "internal/abi.NoEscape", "internal/bytealg.MakeNoZero"], unfollowed := true, recurses := true, named := ["math/bits.deBruijn64tab", "unicode/utf8.first", "unicode/utf8.acceptRanges", "internal/bytealg.MaxLen"], apart := false, laid := [("math/bits.deBruijn64tab", laid_math_bits_deBruijn64tab), ("unicode/utf8.acceptRanges", laid_unicode_utf8_acceptRanges), ("unicode/utf8.first", laid_unicode_utf8_first)] }
def ModelBooleanSaid : Prop := modelBooleanRow.holds Tryd.pinned (OpenSpec.ofChange modelBooleanSpec)

/-- ITS FALSE NEIGHBOUR: 'it returns false'. Refute it at one input. -/
def modelBooleanWrong : ChangeSpec := { name := "modelBoolean", fn := fun _ => fun
  | [d1, d2, d3] => { results := [.lit (.bool false)], args := [d1, d2, d3] }
  | _ => none }
def ModelBooleanWrongFalsely : Prop := modelBooleanRow.holds Tryd.pinned (OpenSpec.ofChange modelBooleanWrong)

/-- 'sentinellaw16.ModelMirror': WHATEVER THE INPUT: true; the input reads as it did. -/
def modelMirrorSpec : ChangeSpec := { name := "modelMirror", fn := fun _ => fun
  | [d1, d2] => { results := [.lit (.bool true)], args := [d1, d2] }
  | _ => none }
def modelMirrorRow : OpenClaim := { program := "ytdlibehffgfhlaadoor", sum := "4383aff56fc4fd127384de01045c24d8bddcd0929d1863490cf5487229401104", func := "sentinel/sentinellaw16.ModelMirror", spec := "modelMirror", inPlace := ["internal/bytealg.IndexByteString", "internal/bytealg.IndexString", "internal/abi.NoEscape", "internal/bytealg.MakeNoZero"], unfollowed := true, recurses := true, named := ["unicode/utf8.first", "unicode/utf8.acceptRanges", "math/bits.deBruijn64tab", "internal/bytealg.MaxLen"], apart := false, laid := [("math/bits.deBruijn64tab", laid_math_bits_deBruijn64tab), ("unicode/utf8.acceptRanges", laid_unicode_utf8_acceptRanges), ("unicode/utf8.first", laid_unicode_utf8_first)] }
def ModelMirrorSaid : Prop := modelMirrorRow.holds Tryd.pinned (OpenSpec.ofChange modelMirrorSpec)

/-- ITS FALSE NEIGHBOUR: 'it returns false'. Refute it at one input. -/
def modelMirrorWrong : ChangeSpec := { name := "modelMirror", fn := fun _ => fun
  | [d1, d2] => { results := [.lit (.bool false)], args := [d1, d2] }
  | _ => none }
def ModelMirrorWrongFalsely : Prop := modelMirrorRow.holds Tryd.pinned (OpenSpec.ofChange modelMirrorWrong)

/- THE SECOND FORM. 'bulk': how many values and letters a reading holds, each counted each time it is reached (what is shared counts as often as it is met; a slice's spare places count too). A statement '..UptoSaid' is the law's where the arguments, and the package variables that the reading takes, are together of bulk at most 1048576: NARROWER than '..Said'. Prove '..Said' where nothing that the law and all that it calls make is longer than what came in: it says more and counts as full. Else prove '..UptoSaid'. A law counts once. -/
mutual
def uptoBulk {H : Type} : DataW H → Nat
  | .lit (.string bytes) => bytes.length + 1
  | .lit _ => 1
  | .nil => 1
  | .ptr d => uptoBulk d + 1
  | .slice elems spare => uptoBulkAll elems + uptoBulkAll spare + 1
  | .agg parts => uptoBulkAll parts + 1
  | .iface _ d => uptoBulk d + 1
  | .map entries => uptoBulkEntries entries + 1
  | .held _ => 1
def uptoBulkAll {H : Type} : List (DataW H) → Nat
  | [] => 0
  | d :: r => uptoBulk d + uptoBulkAll r
def uptoBulkEntries {H : Type} : List (Lit × DataW H) → Nat
  | [] => 0
  | x :: r => uptoBulkEntry x + uptoBulkEntries r
def uptoBulkEntry {H : Type} : Lit × DataW H → Nat
  | (.string bytes, d) => bytes.length + uptoBulk d + 1
  | (_, d) => uptoBulk d + 1
 end
def uptoSmall : (H : Type) → List (DataW H) → Bool := fun _ ds => decide (uptoBulkAll ds ≤ 1048576)
def OpenSpec.upto (s : _root_.Go.ChangeSpec) : _root_.Go.OpenSpec := { _root_.Go.OpenSpec.ofChange s with cond := some uptoSmall }

/-- 'sentinellaw14.MsoExamples', WHERE WHAT IT READS IS OF BULK AT MOST 1048576: true; the input reads as it did. -/
def msoExamplesUptoRow : OpenClaim := { program := "ytdlibehffgfhlaadoor", sum := "4383aff56fc4fd127384de01045c24d8bddcd0929d1863490cf5487229401104", func := "sentinel/sentinellaw14.MsoExamples", spec := "msoExamples", inPlace := ["internal/bytealg.IndexByteString", "internal/bytealg.IndexString", "internal/abi.NoEscape", "internal/bytealg.MakeNoZero"], unfollowed := true, recurses := true, named := ["unicode/utf8.first", "unicode/utf8.acceptRanges", "internal/bytealg.MaxLen"], apart := false, laid := [("unicode/utf8.acceptRanges", laid_unicode_utf8_acceptRanges), ("unicode/utf8.first", laid_unicode_utf8_first)], narrowed := true }
def MsoExamplesUptoSaid : Prop := msoExamplesUptoRow.holds Tryd.pinned (OpenSpec.upto msoExamplesSpec)

/-- 'sentinellaw16.ModelWords', WHERE WHAT IT READS IS OF BULK AT MOST 1048576: true; the input reads as it did. -/
def modelWordsUptoRow : OpenClaim := { program := "ytdlibehffgfhlaadoor", sum := "4383aff56fc4fd127384de01045c24d8bddcd0929d1863490cf5487229401104", func := "sentinel/sentinellaw16.ModelWords", spec := "modelWords", inPlace := ["internal/abi.NoEscape", "internal/bytealg.MakeNoZero", "internal/bytealg.IndexByteString", "internal/bytealg.IndexString"], unfollowed := true, recurses := true, named := ["math/bits.deBruijn64tab", "unicode/utf8.first", "unicode/utf8.acceptRanges", "internal/bytealg.MaxLen"], apart := false, laid := [("math/bits.deBruijn64tab", laid_math_bits_deBruijn64tab), ("unicode/utf8.acceptRanges", laid_unicode_utf8_acceptRanges), ("unicode/utf8.first", laid_unicode_utf8_first)], narrowed := true }
def ModelWordsUptoSaid : Prop := modelWordsUptoRow.holds Tryd.pinned (OpenSpec.upto modelWordsSpec)

/-- 'sentinellaw16.ModelTrees', WHERE WHAT IT READS IS OF BULK AT MOST 1048576: true; the input reads as it did. -/
def modelTreesUptoRow : OpenClaim := { program := "ytdlibehffgfhlaadoor", sum := "4383aff56fc4fd127384de01045c24d8bddcd0929d1863490cf5487229401104", func := "sentinel/sentinellaw16.ModelTrees", spec := "modelTrees", inPlace := ["internal/bytealg.IndexByteString", "internal/bytealg.IndexString", "internal/abi.NoEscape", "internal/bytealg.MakeNoZero"], unfollowed := true, recurses := true, named := ["math/bits.deBruijn64tab", "unicode/utf8.first", "unicode/utf8.acceptRanges", "internal/bytealg.MaxLen"], apart := false, laid := [("math/bits.deBruijn64tab", laid_math_bits_deBruijn64tab), ("unicode/utf8.acceptRanges", laid_unicode_utf8_acceptRanges), ("unicode/utf8.first", laid_unicode_utf8_first)], narrowed := true }
def ModelTreesUptoSaid : Prop := modelTreesUptoRow.holds Tryd.pinned (OpenSpec.upto modelTreesSpec)

/-- 'sentinellaw16.ModelExamples', WHERE WHAT IT READS IS OF BULK AT MOST 1048576: true; the input reads as it did. -/
def modelExamplesUptoRow : OpenClaim := { program := "ytdlibehffgfhlaadoor", sum := "4383aff56fc4fd127384de01045c24d8bddcd0929d1863490cf5487229401104", func := "sentinel/sentinellaw16.ModelExamples", spec := "modelExamples", inPlace := ["internal/abi.NoEscape", "internal/bytealg.MakeNoZero", "internal/bytealg.IndexByteString", "internal/bytealg.IndexString"], unfollowed := true, recurses := true, named := ["math/bits.deBruijn64tab", "unicode/utf8.first", "unicode/utf8.acceptRanges", "internal/bytealg.MaxLen"], apart := false, laid := [("math/bits.deBruijn64tab", laid_math_bits_deBruijn64tab), ("unicode/utf8.acceptRanges", laid_unicode_utf8_acceptRanges), ("unicode/utf8.first", laid_unicode_utf8_first)], narrowed := true }
def ModelExamplesUptoSaid : Prop := modelExamplesUptoRow.holds Tryd.pinned (OpenSpec.upto modelExamplesSpec)

/-- 'sentinellaw16.ModelOrder', WHERE WHAT IT READS IS OF BULK AT MOST 1048576: true; the input reads as it did. -/
def modelOrderUptoRow : OpenClaim := { program := "ytdlibehffgfhlaadoor", sum := "4383aff56fc4fd127384de01045c24d8bddcd0929d1863490cf5487229401104", func := "sentinel/sentinellaw16.ModelOrder", spec := "modelOrder", inPlace := ["internal/bytealg.IndexByteString", "internal/bytealg.IndexString", "internal/abi.NoEscape", "internal/bytealg.MakeNoZero"], unfollowed := true, recurses := true, named := ["unicode/utf8.first", "unicode/utf8.acceptRanges", "math/bits.deBruijn64tab", "internal/bytealg.MaxLen"], apart := false, laid := [("math/bits.deBruijn64tab", laid_math_bits_deBruijn64tab), ("unicode/utf8.acceptRanges", laid_unicode_utf8_acceptRanges), ("unicode/utf8.first", laid_unicode_utf8_first)], narrowed := true }
def ModelOrderUptoSaid : Prop := modelOrderUptoRow.holds Tryd.pinned (OpenSpec.upto modelOrderSpec)

/-- 'sentinellaw16.ModelPaths', WHERE WHAT IT READS IS OF BULK AT MOST 1048576: true; the input reads as it did. -/
def modelPathsUptoRow : OpenClaim := { program := "ytdlibehffgfhlaadoor", sum := "4383aff56fc4fd127384de01045c24d8bddcd0929d1863490cf5487229401104", func := "sentinel/sentinellaw16.ModelPaths", spec := "modelPaths", inPlace := ["internal/bytealg.IndexByteString", "internal/bytealg.IndexString", "internal/abi.NoEscape", "internal/bytealg.MakeNoZero"], unfollowed := true, recurses := true, named := ["unicode/utf8.first", "unicode/utf8.acceptRanges", "math/bits.deBruijn64tab", "internal/bytealg.MaxLen"], apart := false, laid := [("math/bits.deBruijn64tab", laid_math_bits_deBruijn64tab), ("unicode/utf8.acceptRanges", laid_unicode_utf8_acceptRanges), ("unicode/utf8.first", laid_unicode_utf8_first)], narrowed := true }
def ModelPathsUptoSaid : Prop := modelPathsUptoRow.holds Tryd.pinned (OpenSpec.upto modelPathsSpec)

/-- 'sentinellaw16.ModelExists', WHERE WHAT IT READS IS OF BULK AT MOST 1048576: true; the input reads as it did. -/
def modelExistsUptoRow : OpenClaim := { program := "ytdlibehffgfhlaadoor", sum := "4383aff56fc4fd127384de01045c24d8bddcd0929d1863490cf5487229401104", func := "sentinel/sentinellaw16.ModelExists", spec := "modelExists", inPlace := ["internal/bytealg.IndexByteString", "internal/bytealg.IndexString", "internal/abi.NoEscape", "internal/bytealg.MakeNoZero"], unfollowed := true, recurses := true, named := ["unicode/utf8.first", "unicode/utf8.acceptRanges", "math/bits.deBruijn64tab", "internal/bytealg.MaxLen"], apart := false, laid := [("math/bits.deBruijn64tab", laid_math_bits_deBruijn64tab), ("unicode/utf8.acceptRanges", laid_unicode_utf8_acceptRanges), ("unicode/utf8.first", laid_unicode_utf8_first)], narrowed := true }
def ModelExistsUptoSaid : Prop := modelExistsUptoRow.holds Tryd.pinned (OpenSpec.upto modelExistsSpec)

/-- 'sentinellaw16.ModelBound', WHERE WHAT IT READS IS OF BULK AT MOST 1048576: true; the input reads as it did. -/
def modelBoundUptoRow : OpenClaim := { program := "ytdlibehffgfhlaadoor", sum := "4383aff56fc4fd127384de01045c24d8bddcd0929d1863490cf5487229401104", func := "sentinel/sentinellaw16.ModelBound", spec := "modelBound", inPlace := ["internal/bytealg.IndexByteString", "internal/bytealg.IndexString", "internal/abi.NoEscape", "internal/bytealg.MakeNoZero"], unfollowed := true, recurses := true, named := ["math/bits.deBruijn64tab", "unicode/utf8.first", "unicode/utf8.acceptRanges", "internal/bytealg.MaxLen"], apart := false, laid := [("math/bits.deBruijn64tab", laid_math_bits_deBruijn64tab), ("unicode/utf8.acceptRanges", laid_unicode_utf8_acceptRanges), ("unicode/utf8.first", laid_unicode_utf8_first)], narrowed := true }
def ModelBoundUptoSaid : Prop := modelBoundUptoRow.holds Tryd.pinned (OpenSpec.upto modelBoundSpec)

/-- 'sentinellaw16.ModelBoolean', WHERE WHAT IT READS IS OF BULK AT MOST 1048576: true; the input reads as it did. -/
def modelBooleanUptoRow : OpenClaim := { program := "ytdlibehffgfhlaadoor", sum := "4383aff56fc4fd127384de01045c24d8bddcd0929d1863490cf5487229401104", func := "sentinel/sentinellaw16.ModelBoolean", spec := "modelBoolean", inPlace := ["internal/bytealg.IndexByteString", "internal/bytealg.IndexString", "internal/abi.NoEscape", "internal/bytealg.MakeNoZero"], unfollowed := true, recurses := true, named := ["math/bits.deBruijn64tab", "unicode/utf8.first", "unicode/utf8.acceptRanges", "internal/bytealg.MaxLen"], apart := false, laid := [("math/bits.deBruijn64tab", laid_math_bits_deBruijn64tab), ("unicode/utf8.acceptRanges", laid_unicode_utf8_acceptRanges), ("unicode/utf8.first", laid_unicode_utf8_first)], narrowed := true }
def ModelBooleanUptoSaid : Prop := modelBooleanUptoRow.holds Tryd.pinned (OpenSpec.upto modelBooleanSpec)

/-- 'sentinellaw16.ModelMirror', WHERE WHAT IT READS IS OF BULK AT MOST 1048576: true; the input reads as it did. -/
def modelMirrorUptoRow : OpenClaim := { program := "ytdlibehffgfhlaadoor", sum := "4383aff56fc4fd127384de01045c24d8bddcd0929d1863490cf5487229401104", func := "sentinel/sentinellaw16.ModelMirror", spec := "modelMirror", inPlace := ["internal/bytealg.IndexByteString", "internal/bytealg.IndexString", "internal/abi.NoEscape", "internal/bytealg.MakeNoZero"], unfollowed := true, recurses := true, named := ["unicode/utf8.first", "unicode/utf8.acceptRanges", "math/bits.deBruijn64tab", "internal/bytealg.MaxLen"], apart := false, laid := [("math/bits.deBruijn64tab", laid_math_bits_deBruijn64tab), ("unicode/utf8.acceptRanges", laid_unicode_utf8_acceptRanges), ("unicode/utf8.first", laid_unicode_utf8_first)], narrowed := true }
def ModelMirrorUptoSaid : Prop := modelMirrorUptoRow.holds Tryd.pinned (OpenSpec.upto modelMirrorSpec)

end Rows
end Go.Proofs.YtdlibehffgfhlaaDoor
