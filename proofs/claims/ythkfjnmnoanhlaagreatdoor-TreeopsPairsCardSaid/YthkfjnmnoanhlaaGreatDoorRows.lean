/-
  NARROWER THAN 'FOR EVERY INPUT', by the rows' own cells (each row's printed sentence says how): TreeopsMatches: laid · TreeopsQuantifies: laid · TreeopsPairs: laid · TreeopsExamples: laid · TreeopsAlgebra: laid · TreeopsExists: laid · TreeopsIncluded: laid · TreeopsSmallest: laid · TreeopsBoolean: laid · TreeopsCounts: laid.
  DERIVED. THE GIVEN ROWS OF THIS SEAT. 10 by the template 'for every input the law returns true; each argument reads behind the call as it read before'; 0 by the template 'total and deterministic' (their statements: YthkfjnmnoanhlaaGreatDoorTotals.lean).
  GIVEN WITH THE SEED: the statements are not yours to turn. If you find one false, say at which input.
  Laid BY PROGRAM, IN A SANDBOX (cutbox-rows.mjs): the forced cells as the released guide's own fill.sh prints them over the translation b89e2015f94d0f75… (all of the seat's roots in one cut). By AI agents, Wed Nov 11 2026. No macro, syntax, notation, axiom, sorry.
-/
import Derived.Test.YthkfjnmnoanhlaaGreatDoorChecked
import GoSem.Claim
import GoSem.ClaimJoined
import GoSem.ClaimMapViews
import Derived.JoinedTies
import Derived.KernelRfl
namespace Go.Proofs.YthkfjnmnoanhlaaGreatDoor
/- THE CELL 'sum', in the pinned program and in every row, IS THE sha256 OF THE DUMP (.gsa) THAT YthkfjnmnoanhlaaGreatDoorProg.lean LOADS. Nothing in Lean hashes anything: it is a label: what it is worth is what the hold of that sum in a sandbox is worth. -/
noncomputable def Tryz.pinned : Pinned := { name := "ythkfjnmnoanhlaagreatdoor", sum := "b89e2015f94d0f75304b97c4cb842bae96f9299452abbfe333c9c9570ee7f4fa", checked := Tryz.checked }
namespace Rows
def none {H : Type} : Left H := { results := [], args := [] }

/- WHAT THE LISTED PACKAGE-LEVEL VARIABLES READ AS WHEN THE CALL BEGINS. Each datum BY PROGRAM (the guide's laid-datum.mjs) off the statement by which the dump's own 'gosem.cut.vars' lays the variable. In a bare row this is a premise. The card (YthkfjnmnoanhlaaGreatDoorCards.lean) ties it to the program's text. -/
def laid_math_bits_deBruijn32tab {H : Type} : DataW H := .agg [.lit (.int .u8 0), .lit (.int .u8 1), .lit (.int .u8 28), .lit (.int .u8 2), .lit (.int .u8 29), .lit (.int .u8 14), .lit (.int .u8 24), .lit (.int .u8 3), .lit (.int .u8 30), .lit (.int .u8 22), .lit (.int .u8 20), .lit (.int .u8 15), .lit (.int .u8 25), .lit (.int .u8 17), .lit (.int .u8 4), .lit (.int .u8 8), .lit (.int .u8 31), .lit (.int .u8 27), .lit (.int .u8 13), .lit (.int .u8 23), .lit (.int .u8 21), .lit (.int .u8 19), .lit (.int .u8 16), .lit (.int .u8 7), .lit (.int .u8 26), .lit (.int .u8 12), .lit (.int .u8 18), .lit (.int .u8 6), .lit (.int .u8 11), .lit (.int .u8 5), .lit (.int .u8 10), .lit (.int .u8 9)]
def laid_math_bits_deBruijn64tab {H : Type} : DataW H := .agg [.lit (.int .u8 0), .lit (.int .u8 1), .lit (.int .u8 56), .lit (.int .u8 2), .lit (.int .u8 57), .lit (.int .u8 49), .lit (.int .u8 28), .lit (.int .u8 3), .lit (.int .u8 61), .lit (.int .u8 58), .lit (.int .u8 42), .lit (.int .u8 50), .lit (.int .u8 38), .lit (.int .u8 29), .lit (.int .u8 17), .lit (.int .u8 4), .lit (.int .u8 62), .lit (.int .u8 47), .lit (.int .u8 59), .lit (.int .u8 36), .lit (.int .u8 45), .lit (.int .u8 43), .lit (.int .u8 51), .lit (.int .u8 22), .lit (.int .u8 53), .lit (.int .u8 39), .lit (.int .u8 33), .lit (.int .u8 30), .lit (.int .u8 24), .lit (.int .u8 18), .lit (.int .u8 12), .lit (.int .u8 5), .lit (.int .u8 63), .lit (.int .u8 55), .lit (.int .u8 48), .lit (.int .u8 27), .lit (.int .u8 60), .lit (.int .u8 41), .lit (.int .u8 37), .lit (.int .u8 16), .lit (.int .u8 46), .lit (.int .u8 35), .lit (.int .u8 44), .lit (.int .u8 21), .lit (.int .u8 52), .lit (.int .u8 32), .lit (.int .u8 23), .lit (.int .u8 11), .lit (.int .u8 54), .lit (.int .u8 26), .lit (.int .u8 40), .lit (.int .u8 15), .lit (.int .u8 34), .lit (.int .u8 20), .lit (.int .u8 31), .lit (.int .u8 10), .lit (.int .u8 25), .lit (.int .u8 14), .lit (.int .u8 19), .lit (.int .u8 9), .lit (.int .u8 13), .lit (.int .u8 8), .lit (.int .u8 7), .lit (.int .u8 6)]
def laid_internal_strconv_uint64pow10 {H : Type} : DataW H := .agg [.lit (.int .u64 1), .lit (.int .u64 10), .lit (.int .u64 100), .lit (.int .u64 1000), .lit (.int .u64 10000), .lit (.int .u64 100000), .lit (.int .u64 1000000), .lit (.int .u64 10000000), .lit (.int .u64 100000000), .lit (.int .u64 1000000000), .lit (.int .u64 10000000000), .lit (.int .u64 100000000000), .lit (.int .u64 1000000000000), .lit (.int .u64 10000000000000), .lit (.int .u64 100000000000000), .lit (.int .u64 1000000000000000), .lit (.int .u64 10000000000000000), .lit (.int .u64 100000000000000000), .lit (.int .u64 1000000000000000000), .lit (.int .u64 10000000000000000000)]

/-- 'sentinellaw20.TreeopsMatches': WHATEVER THE INPUT: true; the input reads as it did. -/
def treeopsMatchesSpec : ChangeSpec := { name := "treeopsMatches", fn := fun _ => fun
  | [d1, d2, d3] => { results := [.lit (.bool true)], args := [d1, d2, d3] }
  | _ => none }
def treeopsMatchesRow : OpenClaim := { program := "ythkfjnmnoanhlaagreatdoor", sum := "b89e2015f94d0f75304b97c4cb842bae96f9299452abbfe333c9c9570ee7f4fa", func := "sentinel/sentinellaw20.TreeopsMatches", spec := "treeopsMatches", inPlace := ["internal/abi.NoEscape"], unfollowed := true, recurses := true, named := ["internal/strconv.uint64pow10", "math/bits.deBruijn32tab", "math/bits.deBruijn64tab"], plainKeys := false, apart := false, laid := [("math/bits.deBruijn32tab", laid_math_bits_deBruijn32tab), ("math/bits.deBruijn64tab", laid_math_bits_deBruijn64tab), ("internal/strconv.uint64pow10", laid_internal_strconv_uint64pow10)] }
def TreeopsMatchesSaid : Prop := treeopsMatchesRow.holds Tryz.pinned (OpenSpec.ofChange treeopsMatchesSpec)

/-- ITS FALSE NEIGHBOUR: 'it returns false'. Refute it at one input. -/
def treeopsMatchesWrong : ChangeSpec := { name := "treeopsMatches", fn := fun _ => fun
  | [d1, d2, d3] => { results := [.lit (.bool false)], args := [d1, d2, d3] }
  | _ => none }
def TreeopsMatchesWrongFalsely : Prop := treeopsMatchesRow.holds Tryz.pinned (OpenSpec.ofChange treeopsMatchesWrong)

/-- 'sentinellaw20.TreeopsQuantifies': WHATEVER THE INPUT: true; the input reads as it did. -/
def treeopsQuantifiesSpec : ChangeSpec := { name := "treeopsQuantifies", fn := fun _ => fun
  | [d1, d2] => { results := [.lit (.bool true)], args := [d1, d2] }
  | _ => none }
def treeopsQuantifiesRow : OpenClaim := { program := "ythkfjnmnoanhlaagreatdoor", sum := "b89e2015f94d0f75304b97c4cb842bae96f9299452abbfe333c9c9570ee7f4fa", func := "sentinel/sentinellaw20.TreeopsQuantifies", spec := "treeopsQuantifies", inPlace := ["internal/abi.NoEscape"], unfollowed := true, recurses := true, named := ["internal/strconv.uint64pow10", "math/bits.deBruijn32tab", "math/bits.deBruijn64tab"], plainKeys := false, apart := false, laid := [("math/bits.deBruijn32tab", laid_math_bits_deBruijn32tab), ("math/bits.deBruijn64tab", laid_math_bits_deBruijn64tab), ("internal/strconv.uint64pow10", laid_internal_strconv_uint64pow10)] }
def TreeopsQuantifiesSaid : Prop := treeopsQuantifiesRow.holds Tryz.pinned (OpenSpec.ofChange treeopsQuantifiesSpec)

/-- ITS FALSE NEIGHBOUR: 'it returns false'. Refute it at one input. -/
def treeopsQuantifiesWrong : ChangeSpec := { name := "treeopsQuantifies", fn := fun _ => fun
  | [d1, d2] => { results := [.lit (.bool false)], args := [d1, d2] }
  | _ => none }
def TreeopsQuantifiesWrongFalsely : Prop := treeopsQuantifiesRow.holds Tryz.pinned (OpenSpec.ofChange treeopsQuantifiesWrong)

/-- 'sentinellaw20.TreeopsPairs': WHATEVER THE INPUT: true; the input reads as it did. -/
def treeopsPairsSpec : ChangeSpec := { name := "treeopsPairs", fn := fun _ => fun
  | [d1, d2] => { results := [.lit (.bool true)], args := [d1, d2] }
  | _ => none }
def treeopsPairsRow : OpenClaim := { program := "ythkfjnmnoanhlaagreatdoor", sum := "b89e2015f94d0f75304b97c4cb842bae96f9299452abbfe333c9c9570ee7f4fa", func := "sentinel/sentinellaw20.TreeopsPairs", spec := "treeopsPairs", inPlace := ["internal/abi.NoEscape"], unfollowed := true, recurses := true, named := ["internal/strconv.uint64pow10", "math/bits.deBruijn32tab", "math/bits.deBruijn64tab"], plainKeys := false, apart := false, laid := [("math/bits.deBruijn32tab", laid_math_bits_deBruijn32tab), ("math/bits.deBruijn64tab", laid_math_bits_deBruijn64tab), ("internal/strconv.uint64pow10", laid_internal_strconv_uint64pow10)] }
def TreeopsPairsSaid : Prop := treeopsPairsRow.holds Tryz.pinned (OpenSpec.ofChange treeopsPairsSpec)

/-- ITS FALSE NEIGHBOUR: 'it returns false'. Refute it at one input. -/
def treeopsPairsWrong : ChangeSpec := { name := "treeopsPairs", fn := fun _ => fun
  | [d1, d2] => { results := [.lit (.bool false)], args := [d1, d2] }
  | _ => none }
def TreeopsPairsWrongFalsely : Prop := treeopsPairsRow.holds Tryz.pinned (OpenSpec.ofChange treeopsPairsWrong)

/-- 'sentinellaw20.TreeopsExamples': WHATEVER THE INPUT: true; the input reads as it did. -/
def treeopsExamplesSpec : ChangeSpec := { name := "treeopsExamples", fn := fun _ => fun
  | [] => { results := [.lit (.bool true)], args := [] }
  | _ => none }
def treeopsExamplesRow : OpenClaim := { program := "ythkfjnmnoanhlaagreatdoor", sum := "b89e2015f94d0f75304b97c4cb842bae96f9299452abbfe333c9c9570ee7f4fa", func := "sentinel/sentinellaw20.TreeopsExamples", spec := "treeopsExamples", inPlace := ["internal/abi.NoEscape"], unfollowed := true, recurses := true, named := ["internal/strconv.uint64pow10", "math/bits.deBruijn32tab", "math/bits.deBruijn64tab"], plainKeys := false, apart := false, laid := [("math/bits.deBruijn32tab", laid_math_bits_deBruijn32tab), ("math/bits.deBruijn64tab", laid_math_bits_deBruijn64tab), ("internal/strconv.uint64pow10", laid_internal_strconv_uint64pow10)] }
def TreeopsExamplesSaid : Prop := treeopsExamplesRow.holds Tryz.pinned (OpenSpec.ofChange treeopsExamplesSpec)

/-- ITS FALSE NEIGHBOUR: 'it returns false'. Refute it at one input. -/
def treeopsExamplesWrong : ChangeSpec := { name := "treeopsExamples", fn := fun _ => fun
  | [] => { results := [.lit (.bool false)], args := [] }
  | _ => none }
def TreeopsExamplesWrongFalsely : Prop := treeopsExamplesRow.holds Tryz.pinned (OpenSpec.ofChange treeopsExamplesWrong)

/-- 'sentinellaw20.TreeopsAlgebra': WHATEVER THE INPUT: true; the input reads as it did. -/
def treeopsAlgebraSpec : ChangeSpec := { name := "treeopsAlgebra", fn := fun _ => fun
  | [d1, d2] => { results := [.lit (.bool true)], args := [d1, d2] }
  | _ => none }
def treeopsAlgebraRow : OpenClaim := { program := "ythkfjnmnoanhlaagreatdoor", sum := "b89e2015f94d0f75304b97c4cb842bae96f9299452abbfe333c9c9570ee7f4fa", func := "sentinel/sentinellaw20.TreeopsAlgebra", spec := "treeopsAlgebra", inPlace := ["internal/abi.NoEscape"], unfollowed := true, recurses := true, named := ["internal/strconv.uint64pow10", "math/bits.deBruijn32tab", "math/bits.deBruijn64tab"], plainKeys := false, apart := false, laid := [("math/bits.deBruijn32tab", laid_math_bits_deBruijn32tab), ("math/bits.deBruijn64tab", laid_math_bits_deBruijn64tab), ("internal/strconv.uint64pow10", laid_internal_strconv_uint64pow10)] }
def TreeopsAlgebraSaid : Prop := treeopsAlgebraRow.holds Tryz.pinned (OpenSpec.ofChange treeopsAlgebraSpec)

/-- ITS FALSE NEIGHBOUR: 'it returns false'. Refute it at one input. -/
def treeopsAlgebraWrong : ChangeSpec := { name := "treeopsAlgebra", fn := fun _ => fun
  | [d1, d2] => { results := [.lit (.bool false)], args := [d1, d2] }
  | _ => none }
def TreeopsAlgebraWrongFalsely : Prop := treeopsAlgebraRow.holds Tryz.pinned (OpenSpec.ofChange treeopsAlgebraWrong)

/-- 'sentinellaw20.TreeopsExists': WHATEVER THE INPUT: true; the input reads as it did. -/
def treeopsExistsSpec : ChangeSpec := { name := "treeopsExists", fn := fun _ => fun
  | [d1, d2, d3] => { results := [.lit (.bool true)], args := [d1, d2, d3] }
  | _ => none }
def treeopsExistsRow : OpenClaim := { program := "ythkfjnmnoanhlaagreatdoor", sum := "b89e2015f94d0f75304b97c4cb842bae96f9299452abbfe333c9c9570ee7f4fa", func := "sentinel/sentinellaw20.TreeopsExists", spec := "treeopsExists", inPlace := ["internal/abi.NoEscape"], unfollowed := true, recurses := true, named := ["internal/strconv.uint64pow10", "math/bits.deBruijn32tab", "math/bits.deBruijn64tab"], plainKeys := false, apart := false, laid := [("math/bits.deBruijn32tab", laid_math_bits_deBruijn32tab), ("math/bits.deBruijn64tab", laid_math_bits_deBruijn64tab), ("internal/strconv.uint64pow10", laid_internal_strconv_uint64pow10)] }
def TreeopsExistsSaid : Prop := treeopsExistsRow.holds Tryz.pinned (OpenSpec.ofChange treeopsExistsSpec)

/-- ITS FALSE NEIGHBOUR: 'it returns false'. Refute it at one input. -/
def treeopsExistsWrong : ChangeSpec := { name := "treeopsExists", fn := fun _ => fun
  | [d1, d2, d3] => { results := [.lit (.bool false)], args := [d1, d2, d3] }
  | _ => none }
def TreeopsExistsWrongFalsely : Prop := treeopsExistsRow.holds Tryz.pinned (OpenSpec.ofChange treeopsExistsWrong)

/-- 'sentinellaw20.TreeopsIncluded': WHATEVER THE INPUT: true; the input reads as it did. -/
def treeopsIncludedSpec : ChangeSpec := { name := "treeopsIncluded", fn := fun _ => fun
  | [d1, d2] => { results := [.lit (.bool true)], args := [d1, d2] }
  | _ => none }
def treeopsIncludedRow : OpenClaim := { program := "ythkfjnmnoanhlaagreatdoor", sum := "b89e2015f94d0f75304b97c4cb842bae96f9299452abbfe333c9c9570ee7f4fa", func := "sentinel/sentinellaw20.TreeopsIncluded", spec := "treeopsIncluded", inPlace := ["internal/abi.NoEscape"], unfollowed := true, recurses := true, named := ["internal/strconv.uint64pow10", "math/bits.deBruijn32tab", "math/bits.deBruijn64tab"], plainKeys := false, apart := false, laid := [("math/bits.deBruijn32tab", laid_math_bits_deBruijn32tab), ("math/bits.deBruijn64tab", laid_math_bits_deBruijn64tab), ("internal/strconv.uint64pow10", laid_internal_strconv_uint64pow10)] }
def TreeopsIncludedSaid : Prop := treeopsIncludedRow.holds Tryz.pinned (OpenSpec.ofChange treeopsIncludedSpec)

/-- ITS FALSE NEIGHBOUR: 'it returns false'. Refute it at one input. -/
def treeopsIncludedWrong : ChangeSpec := { name := "treeopsIncluded", fn := fun _ => fun
  | [d1, d2] => { results := [.lit (.bool false)], args := [d1, d2] }
  | _ => none }
def TreeopsIncludedWrongFalsely : Prop := treeopsIncludedRow.holds Tryz.pinned (OpenSpec.ofChange treeopsIncludedWrong)

/-- 'sentinellaw20.TreeopsSmallest': WHATEVER THE INPUT: true; the input reads as it did. -/
def treeopsSmallestSpec : ChangeSpec := { name := "treeopsSmallest", fn := fun _ => fun
  | [d1, d2] => { results := [.lit (.bool true)], args := [d1, d2] }
  | _ => none }
def treeopsSmallestRow : OpenClaim := { program := "ythkfjnmnoanhlaagreatdoor", sum := "b89e2015f94d0f75304b97c4cb842bae96f9299452abbfe333c9c9570ee7f4fa", func := "sentinel/sentinellaw20.TreeopsSmallest", spec := "treeopsSmallest", inPlace := ["internal/abi.NoEscape"], unfollowed := true, recurses := true, named := ["internal/strconv.uint64pow10", "math/bits.deBruijn32tab", "math/bits.deBruijn64tab"], plainKeys := false, apart := false, laid := [("math/bits.deBruijn32tab", laid_math_bits_deBruijn32tab), ("math/bits.deBruijn64tab", laid_math_bits_deBruijn64tab), ("internal/strconv.uint64pow10", laid_internal_strconv_uint64pow10)] }
def TreeopsSmallestSaid : Prop := treeopsSmallestRow.holds Tryz.pinned (OpenSpec.ofChange treeopsSmallestSpec)

/-- ITS FALSE NEIGHBOUR: 'it returns false'. Refute it at one input. -/
def treeopsSmallestWrong : ChangeSpec := { name := "treeopsSmallest", fn := fun _ => fun
  | [d1, d2] => { results := [.lit (.bool false)], args := [d1, d2] }
  | _ => none }
def TreeopsSmallestWrongFalsely : Prop := treeopsSmallestRow.holds Tryz.pinned (OpenSpec.ofChange treeopsSmallestWrong)

/-- 'sentinellaw20.TreeopsBoolean': WHATEVER THE INPUT: true; the input reads as it did. -/
def treeopsBooleanSpec : ChangeSpec := { name := "treeopsBoolean", fn := fun _ => fun
  | [d1, d2, d3] => { results := [.lit (.bool true)], args := [d1, d2, d3] }
  | _ => none }
def treeopsBooleanRow : OpenClaim := { program := "ythkfjnmnoanhlaagreatdoor", sum := "b89e2015f94d0f75304b97c4cb842bae96f9299452abbfe333c9c9570ee7f4fa", func := "sentinel/sentinellaw20.TreeopsBoolean", spec := "treeopsBoolean", inPlace := ["internal/abi.NoEscape"], unfollowed := true, recurses := true, named := ["internal/strconv.uint64pow10", "math/bits.deBruijn32tab", "math/bits.deBruijn64tab"], plainKeys := false, apart := false, laid := [("math/bits.deBruijn32tab", laid_math_bits_deBruijn32tab), ("math/bits.deBruijn64tab", laid_math_bits_deBruijn64tab), ("internal/strconv.uint64pow10", laid_internal_strconv_uint64pow10)] }
def TreeopsBooleanSaid : Prop := treeopsBooleanRow.holds Tryz.pinned (OpenSpec.ofChange treeopsBooleanSpec)

/-- ITS FALSE NEIGHBOUR: 'it returns false'. Refute it at one input. -/
def treeopsBooleanWrong : ChangeSpec := { name := "treeopsBoolean", fn := fun _ => fun
  | [d1, d2, d3] => { results := [.lit (.bool false)], args := [d1, d2, d3] }
  | _ => none }
def TreeopsBooleanWrongFalsely : Prop := treeopsBooleanRow.holds Tryz.pinned (OpenSpec.ofChange treeopsBooleanWrong)

/-- 'sentinellaw20.TreeopsCounts': WHATEVER THE INPUT: true; the input reads as it did. -/
def treeopsCountsSpec : ChangeSpec := { name := "treeopsCounts", fn := fun _ => fun
  | [d1, d2] => { results := [.lit (.bool true)], args := [d1, d2] }
  | _ => none }
def treeopsCountsRow : OpenClaim := { program := "ythkfjnmnoanhlaagreatdoor", sum := "b89e2015f94d0f75304b97c4cb842bae96f9299452abbfe333c9c9570ee7f4fa", func := "sentinel/sentinellaw20.TreeopsCounts", spec := "treeopsCounts", inPlace := ["internal/abi.NoEscape"], unfollowed := true, recurses := true, named := ["internal/strconv.uint64pow10", "math/bits.deBruijn32tab", "math/bits.deBruijn64tab"], plainKeys := false, apart := false, laid := [("math/bits.deBruijn32tab", laid_math_bits_deBruijn32tab), ("math/bits.deBruijn64tab", laid_math_bits_deBruijn64tab), ("internal/strconv.uint64pow10", laid_internal_strconv_uint64pow10)] }
def TreeopsCountsSaid : Prop := treeopsCountsRow.holds Tryz.pinned (OpenSpec.ofChange treeopsCountsSpec)

/-- ITS FALSE NEIGHBOUR: 'it returns false'. Refute it at one input. -/
def treeopsCountsWrong : ChangeSpec := { name := "treeopsCounts", fn := fun _ => fun
  | [d1, d2] => { results := [.lit (.bool false)], args := [d1, d2] }
  | _ => none }
def TreeopsCountsWrongFalsely : Prop := treeopsCountsRow.holds Tryz.pinned (OpenSpec.ofChange treeopsCountsWrong)

/- THE SECOND FORM. 'bulk': how many values and letters a reading holds, each counted each time it is reached (what is shared counts as often as it is met; a slice's spare places count too). A statement '..UptoSaid' is the law's where the arguments, and the package variables that the reading takes, are together of bulk at most 1048576: NARROWER than '..Said'. Prove '..Said' where nothing that the law and all that it calls make is longer than what came in: it says more and counts as full. Else prove '..UptoSaid'. A law counts once. -/
mutual
def uptoBulk {H : Type} : DataW H → Nat
  | .lit (.string bytes) => bytes.length + 1
  | .lit _ => 1
  | .nil => 1
  | .ptr d => uptoBulk d + 1
  | .slice elems spare => uptoBulkAll elems + uptoBulkAll spare + 1
  | .agg parts => uptoBulkAll parts + 1
  | .iface _ d => uptoBulk d + 1
  | .map entries => uptoBulkEntries entries + 1
  | .held _ => 1
def uptoBulkAll {H : Type} : List (DataW H) → Nat
  | [] => 0
  | d :: r => uptoBulk d + uptoBulkAll r
def uptoBulkEntries {H : Type} : List (Lit × DataW H) → Nat
  | [] => 0
  | x :: r => uptoBulkEntry x + uptoBulkEntries r
def uptoBulkEntry {H : Type} : Lit × DataW H → Nat
  | (.string bytes, d) => bytes.length + uptoBulk d + 1
  | (_, d) => uptoBulk d + 1
 end
def uptoSmall : (H : Type) → List (DataW H) → Bool := fun _ ds => decide (uptoBulkAll ds ≤ 1048576)
def OpenSpec.upto (s : _root_.Go.ChangeSpec) : _root_.Go.OpenSpec := { _root_.Go.OpenSpec.ofChange s with cond := some uptoSmall }

/-- 'sentinellaw20.TreeopsMatches', WHERE WHAT IT READS IS OF BULK AT MOST 1048576: true; the input reads as it did. -/
def treeopsMatchesUptoRow : OpenClaim := { program := "ythkfjnmnoanhlaagreatdoor", sum := "b89e2015f94d0f75304b97c4cb842bae96f9299452abbfe333c9c9570ee7f4fa", func := "sentinel/sentinellaw20.TreeopsMatches", spec := "treeopsMatches", inPlace := ["internal/abi.NoEscape"], unfollowed := true, recurses := true, named := ["internal/strconv.uint64pow10", "math/bits.deBruijn32tab", "math/bits.deBruijn64tab"], plainKeys := false, apart := false, laid := [("math/bits.deBruijn32tab", laid_math_bits_deBruijn32tab), ("math/bits.deBruijn64tab", laid_math_bits_deBruijn64tab), ("internal/strconv.uint64pow10", laid_internal_strconv_uint64pow10)], narrowed := true }
def TreeopsMatchesUptoSaid : Prop := treeopsMatchesUptoRow.holds Tryz.pinned (OpenSpec.upto treeopsMatchesSpec)

/-- 'sentinellaw20.TreeopsQuantifies', WHERE WHAT IT READS IS OF BULK AT MOST 1048576: true; the input reads as it did. -/
def treeopsQuantifiesUptoRow : OpenClaim := { program := "ythkfjnmnoanhlaagreatdoor", sum := "b89e2015f94d0f75304b97c4cb842bae96f9299452abbfe333c9c9570ee7f4fa", func := "sentinel/sentinellaw20.TreeopsQuantifies", spec := "treeopsQuantifies", inPlace := ["internal/abi.NoEscape"], unfollowed := true, recurses := true, named := ["internal/strconv.uint64pow10", "math/bits.deBruijn32tab", "math/bits.deBruijn64tab"], plainKeys := false, apart := false, laid := [("math/bits.deBruijn32tab", laid_math_bits_deBruijn32tab), ("math/bits.deBruijn64tab", laid_math_bits_deBruijn64tab), ("internal/strconv.uint64pow10", laid_internal_strconv_uint64pow10)], narrowed := true }
def TreeopsQuantifiesUptoSaid : Prop := treeopsQuantifiesUptoRow.holds Tryz.pinned (OpenSpec.upto treeopsQuantifiesSpec)

/-- 'sentinellaw20.TreeopsPairs', WHERE WHAT IT READS IS OF BULK AT MOST 1048576: true; the input reads as it did. -/
def treeopsPairsUptoRow : OpenClaim := { program := "ythkfjnmnoanhlaagreatdoor", sum := "b89e2015f94d0f75304b97c4cb842bae96f9299452abbfe333c9c9570ee7f4fa", func := "sentinel/sentinellaw20.TreeopsPairs", spec := "treeopsPairs", inPlace := ["internal/abi.NoEscape"], unfollowed := true, recurses := true, named := ["internal/strconv.uint64pow10", "math/bits.deBruijn32tab", "math/bits.deBruijn64tab"], plainKeys := false, apart := false, laid := [("math/bits.deBruijn32tab", laid_math_bits_deBruijn32tab), ("math/bits.deBruijn64tab", laid_math_bits_deBruijn64tab), ("internal/strconv.uint64pow10", laid_internal_strconv_uint64pow10)], narrowed := true }
def TreeopsPairsUptoSaid : Prop := treeopsPairsUptoRow.holds Tryz.pinned (OpenSpec.upto treeopsPairsSpec)

/-- 'sentinellaw20.TreeopsExamples', WHERE WHAT IT READS IS OF BULK AT MOST 1048576: true; the input reads as it did. -/
def treeopsExamplesUptoRow : OpenClaim := { program := "ythkfjnmnoanhlaagreatdoor", sum := "b89e2015f94d0f75304b97c4cb842bae96f9299452abbfe333c9c9570ee7f4fa", func := "sentinel/sentinellaw20.TreeopsExamples", spec := "treeopsExamples", inPlace := ["internal/abi.NoEscape"], unfollowed := true, recurses := true, named := ["internal/strconv.uint64pow10", "math/bits.deBruijn32tab", "math/bits.deBruijn64tab"], plainKeys := false, apart := false, laid := [("math/bits.deBruijn32tab", laid_math_bits_deBruijn32tab), ("math/bits.deBruijn64tab", laid_math_bits_deBruijn64tab), ("internal/strconv.uint64pow10", laid_internal_strconv_uint64pow10)], narrowed := true }
def TreeopsExamplesUptoSaid : Prop := treeopsExamplesUptoRow.holds Tryz.pinned (OpenSpec.upto treeopsExamplesSpec)

/-- 'sentinellaw20.TreeopsAlgebra', WHERE WHAT IT READS IS OF BULK AT MOST 1048576: true; the input reads as it did. -/
def treeopsAlgebraUptoRow : OpenClaim := { program := "ythkfjnmnoanhlaagreatdoor", sum := "b89e2015f94d0f75304b97c4cb842bae96f9299452abbfe333c9c9570ee7f4fa", func := "sentinel/sentinellaw20.TreeopsAlgebra", spec := "treeopsAlgebra", inPlace := ["internal/abi.NoEscape"], unfollowed := true, recurses := true, named := ["internal/strconv.uint64pow10", "math/bits.deBruijn32tab", "math/bits.deBruijn64tab"], plainKeys := false, apart := false, laid := [("math/bits.deBruijn32tab", laid_math_bits_deBruijn32tab), ("math/bits.deBruijn64tab", laid_math_bits_deBruijn64tab), ("internal/strconv.uint64pow10", laid_internal_strconv_uint64pow10)], narrowed := true }
def TreeopsAlgebraUptoSaid : Prop := treeopsAlgebraUptoRow.holds Tryz.pinned (OpenSpec.upto treeopsAlgebraSpec)

/-- 'sentinellaw20.TreeopsExists', WHERE WHAT IT READS IS OF BULK AT MOST 1048576: true; the input reads as it did. -/
def treeopsExistsUptoRow : OpenClaim := { program := "ythkfjnmnoanhlaagreatdoor", sum := "b89e2015f94d0f75304b97c4cb842bae96f9299452abbfe333c9c9570ee7f4fa", func := "sentinel/sentinellaw20.TreeopsExists", spec := "treeopsExists", inPlace := ["internal/abi.NoEscape"], unfollowed := true, recurses := true, named := ["internal/strconv.uint64pow10", "math/bits.deBruijn32tab", "math/bits.deBruijn64tab"], plainKeys := false, apart := false, laid := [("math/bits.deBruijn32tab", laid_math_bits_deBruijn32tab), ("math/bits.deBruijn64tab", laid_math_bits_deBruijn64tab), ("internal/strconv.uint64pow10", laid_internal_strconv_uint64pow10)], narrowed := true }
def TreeopsExistsUptoSaid : Prop := treeopsExistsUptoRow.holds Tryz.pinned (OpenSpec.upto treeopsExistsSpec)

/-- 'sentinellaw20.TreeopsIncluded', WHERE WHAT IT READS IS OF BULK AT MOST 1048576: true; the input reads as it did. -/
def treeopsIncludedUptoRow : OpenClaim := { program := "ythkfjnmnoanhlaagreatdoor", sum := "b89e2015f94d0f75304b97c4cb842bae96f9299452abbfe333c9c9570ee7f4fa", func := "sentinel/sentinellaw20.TreeopsIncluded", spec := "treeopsIncluded", inPlace := ["internal/abi.NoEscape"], unfollowed := true, recurses := true, named := ["internal/strconv.uint64pow10", "math/bits.deBruijn32tab", "math/bits.deBruijn64tab"], plainKeys := false, apart := false, laid := [("math/bits.deBruijn32tab", laid_math_bits_deBruijn32tab), ("math/bits.deBruijn64tab", laid_math_bits_deBruijn64tab), ("internal/strconv.uint64pow10", laid_internal_strconv_uint64pow10)], narrowed := true }
def TreeopsIncludedUptoSaid : Prop := treeopsIncludedUptoRow.holds Tryz.pinned (OpenSpec.upto treeopsIncludedSpec)

/-- 'sentinellaw20.TreeopsSmallest', WHERE WHAT IT READS IS OF BULK AT MOST 1048576: true; the input reads as it did. -/
def treeopsSmallestUptoRow : OpenClaim := { program := "ythkfjnmnoanhlaagreatdoor", sum := "b89e2015f94d0f75304b97c4cb842bae96f9299452abbfe333c9c9570ee7f4fa", func := "sentinel/sentinellaw20.TreeopsSmallest", spec := "treeopsSmallest", inPlace := ["internal/abi.NoEscape"], unfollowed := true, recurses := true, named := ["internal/strconv.uint64pow10", "math/bits.deBruijn32tab", "math/bits.deBruijn64tab"], plainKeys := false, apart := false, laid := [("math/bits.deBruijn32tab", laid_math_bits_deBruijn32tab), ("math/bits.deBruijn64tab", laid_math_bits_deBruijn64tab), ("internal/strconv.uint64pow10", laid_internal_strconv_uint64pow10)], narrowed := true }
def TreeopsSmallestUptoSaid : Prop := treeopsSmallestUptoRow.holds Tryz.pinned (OpenSpec.upto treeopsSmallestSpec)

/-- 'sentinellaw20.TreeopsBoolean', WHERE WHAT IT READS IS OF BULK AT MOST 1048576: true; the input reads as it did. -/
def treeopsBooleanUptoRow : OpenClaim := { program := "ythkfjnmnoanhlaagreatdoor", sum := "b89e2015f94d0f75304b97c4cb842bae96f9299452abbfe333c9c9570ee7f4fa", func := "sentinel/sentinellaw20.TreeopsBoolean", spec := "treeopsBoolean", inPlace := ["internal/abi.NoEscape"], unfollowed := true, recurses := true, named := ["internal/strconv.uint64pow10", "math/bits.deBruijn32tab", "math/bits.deBruijn64tab"], plainKeys := false, apart := false, laid := [("math/bits.deBruijn32tab", laid_math_bits_deBruijn32tab), ("math/bits.deBruijn64tab", laid_math_bits_deBruijn64tab), ("internal/strconv.uint64pow10", laid_internal_strconv_uint64pow10)], narrowed := true }
def TreeopsBooleanUptoSaid : Prop := treeopsBooleanUptoRow.holds Tryz.pinned (OpenSpec.upto treeopsBooleanSpec)

/-- 'sentinellaw20.TreeopsCounts', WHERE WHAT IT READS IS OF BULK AT MOST 1048576: true; the input reads as it did. -/
def treeopsCountsUptoRow : OpenClaim := { program := "ythkfjnmnoanhlaagreatdoor", sum := "b89e2015f94d0f75304b97c4cb842bae96f9299452abbfe333c9c9570ee7f4fa", func := "sentinel/sentinellaw20.TreeopsCounts", spec := "treeopsCounts", inPlace := ["internal/abi.NoEscape"], unfollowed := true, recurses := true, named := ["internal/strconv.uint64pow10", "math/bits.deBruijn32tab", "math/bits.deBruijn64tab"], plainKeys := false, apart := false, laid := [("math/bits.deBruijn32tab", laid_math_bits_deBruijn32tab), ("math/bits.deBruijn64tab", laid_math_bits_deBruijn64tab), ("internal/strconv.uint64pow10", laid_internal_strconv_uint64pow10)], narrowed := true }
def TreeopsCountsUptoSaid : Prop := treeopsCountsUptoRow.holds Tryz.pinned (OpenSpec.upto treeopsCountsSpec)

end Rows
end Go.Proofs.YthkfjnmnoanhlaaGreatDoor
