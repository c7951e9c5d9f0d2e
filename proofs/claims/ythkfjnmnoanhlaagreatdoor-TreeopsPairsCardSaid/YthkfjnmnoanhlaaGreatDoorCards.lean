/-
  DERIVED. GIVEN WITH THE SEED: THE CARDS: each row of YthkfjnmnoanhlaaGreatDoorRows.lean that lists a variable, with what it lists TIED to the program's text (the seventh form; the later family's looks); each row that meets fmt, with fmt's text TOLD by the authors' own Lean function (tested against real Go, not proved from fmt's source: count such statements apart). THE CARD IS WHAT COUNTS. Prove the row's statement (the work); the ties are given (YthkfjnmnoanhlaaGreatDoorTie.lean); close each card by the builder's one call (the guide's Derived/Test/ToyasCard.lean, 'card_holds'). Laid BY PROGRAM, IN A SANDBOX (cutbox-door.mjs). By AI agents, Wed Nov 11 2026. No macro, syntax, notation, axiom, sorry.
-/
import Derived.Test.YthkfjnmnoanhlaaGreatDoorRows
import GoSem.ClaimSeven
namespace Go.Proofs.YthkfjnmnoanhlaaGreatDoor
namespace Rows

/-- THE TIED CARD OF 'sentinellaw20.TreeopsMatches'. -/
def treeopsMatchesCard : Claim7 := { stood := { row := treeopsMatchesRow, standIns := [], harness := (true, "c189aaf1133c257e9ebb83768fab4cd01f3019a1ca86069d6444824f4dcf5309"), looks := false }, kinds := [], alts := [], laidByText := true, laidKinds := [.data, .data, .data], laidTests := true, laidLooks := .later }
def TreeopsMatchesCardSaid : Prop := Claim7.holds Tryz.pinned (.plain (OpenSpec.ofChange treeopsMatchesSpec)) treeopsMatchesCard

/-- THE TIED CARD OF 'sentinellaw20.TreeopsQuantifies'. -/
def treeopsQuantifiesCard : Claim7 := { stood := { row := treeopsQuantifiesRow, standIns := [], harness := (true, "c189aaf1133c257e9ebb83768fab4cd01f3019a1ca86069d6444824f4dcf5309"), looks := false }, kinds := [], alts := [], laidByText := true, laidKinds := [.data, .data, .data], laidTests := true, laidLooks := .later }
def TreeopsQuantifiesCardSaid : Prop := Claim7.holds Tryz.pinned (.plain (OpenSpec.ofChange treeopsQuantifiesSpec)) treeopsQuantifiesCard

/-- THE TIED CARD OF 'sentinellaw20.TreeopsPairs'. -/
def treeopsPairsCard : Claim7 := { stood := { row := treeopsPairsRow, standIns := [], harness := (true, "c189aaf1133c257e9ebb83768fab4cd01f3019a1ca86069d6444824f4dcf5309"), looks := false }, kinds := [], alts := [], laidByText := true, laidKinds := [.data, .data, .data], laidTests := true, laidLooks := .later }
def TreeopsPairsCardSaid : Prop := Claim7.holds Tryz.pinned (.plain (OpenSpec.ofChange treeopsPairsSpec)) treeopsPairsCard

/-- THE TIED CARD OF 'sentinellaw20.TreeopsExamples'. -/
def treeopsExamplesCard : Claim7 := { stood := { row := treeopsExamplesRow, standIns := [], harness := (true, "c189aaf1133c257e9ebb83768fab4cd01f3019a1ca86069d6444824f4dcf5309"), looks := false }, kinds := [], alts := [], laidByText := true, laidKinds := [.data, .data, .data], laidTests := true, laidLooks := .later }
def TreeopsExamplesCardSaid : Prop := Claim7.holds Tryz.pinned (.plain (OpenSpec.ofChange treeopsExamplesSpec)) treeopsExamplesCard

/-- THE TIED CARD OF 'sentinellaw20.TreeopsAlgebra'. -/
def treeopsAlgebraCard : Claim7 := { stood := { row := treeopsAlgebraRow, standIns := [], harness := (true, "c189aaf1133c257e9ebb83768fab4cd01f3019a1ca86069d6444824f4dcf5309"), looks := false }, kinds := [], alts := [], laidByText := true, laidKinds := [.data, .data, .data], laidTests := true, laidLooks := .later }
def TreeopsAlgebraCardSaid : Prop := Claim7.holds Tryz.pinned (.plain (OpenSpec.ofChange treeopsAlgebraSpec)) treeopsAlgebraCard

/-- THE TIED CARD OF 'sentinellaw20.TreeopsExists'. -/
def treeopsExistsCard : Claim7 := { stood := { row := treeopsExistsRow, standIns := [], harness := (true, "c189aaf1133c257e9ebb83768fab4cd01f3019a1ca86069d6444824f4dcf5309"), looks := false }, kinds := [], alts := [], laidByText := true, laidKinds := [.data, .data, .data], laidTests := true, laidLooks := .later }
def TreeopsExistsCardSaid : Prop := Claim7.holds Tryz.pinned (.plain (OpenSpec.ofChange treeopsExistsSpec)) treeopsExistsCard

/-- THE TIED CARD OF 'sentinellaw20.TreeopsIncluded'. -/
def treeopsIncludedCard : Claim7 := { stood := { row := treeopsIncludedRow, standIns := [], harness := (true, "c189aaf1133c257e9ebb83768fab4cd01f3019a1ca86069d6444824f4dcf5309"), looks := false }, kinds := [], alts := [], laidByText := true, laidKinds := [.data, .data, .data], laidTests := true, laidLooks := .later }
def TreeopsIncludedCardSaid : Prop := Claim7.holds Tryz.pinned (.plain (OpenSpec.ofChange treeopsIncludedSpec)) treeopsIncludedCard

/-- THE TIED CARD OF 'sentinellaw20.TreeopsSmallest'. -/
def treeopsSmallestCard : Claim7 := { stood := { row := treeopsSmallestRow, standIns := [], harness := (true, "c189aaf1133c257e9ebb83768fab4cd01f3019a1ca86069d6444824f4dcf5309"), looks := false }, kinds := [], alts := [], laidByText := true, laidKinds := [.data, .data, .data], laidTests := true, laidLooks := .later }
def TreeopsSmallestCardSaid : Prop := Claim7.holds Tryz.pinned (.plain (OpenSpec.ofChange treeopsSmallestSpec)) treeopsSmallestCard

/-- THE TIED CARD OF 'sentinellaw20.TreeopsBoolean'. -/
def treeopsBooleanCard : Claim7 := { stood := { row := treeopsBooleanRow, standIns := [], harness := (true, "c189aaf1133c257e9ebb83768fab4cd01f3019a1ca86069d6444824f4dcf5309"), looks := false }, kinds := [], alts := [], laidByText := true, laidKinds := [.data, .data, .data], laidTests := true, laidLooks := .later }
def TreeopsBooleanCardSaid : Prop := Claim7.holds Tryz.pinned (.plain (OpenSpec.ofChange treeopsBooleanSpec)) treeopsBooleanCard

/-- THE TIED CARD OF 'sentinellaw20.TreeopsCounts'. -/
def treeopsCountsCard : Claim7 := { stood := { row := treeopsCountsRow, standIns := [], harness := (true, "c189aaf1133c257e9ebb83768fab4cd01f3019a1ca86069d6444824f4dcf5309"), looks := false }, kinds := [], alts := [], laidByText := true, laidKinds := [.data, .data, .data], laidTests := true, laidLooks := .later }
def TreeopsCountsCardSaid : Prop := Claim7.holds Tryz.pinned (.plain (OpenSpec.ofChange treeopsCountsSpec)) treeopsCountsCard

/-- THE SECOND FORM's CARD OF 'sentinellaw20.TreeopsMatches'. -/
def treeopsMatchesUptoCard : Claim7 := { stood := { row := treeopsMatchesUptoRow, standIns := [], harness := (true, "c189aaf1133c257e9ebb83768fab4cd01f3019a1ca86069d6444824f4dcf5309"), looks := false }, kinds := [], alts := [], laidByText := true, laidKinds := [.data, .data, .data], laidTests := true, laidLooks := .later }
def TreeopsMatchesUptoCardSaid : Prop := Claim7.holds Tryz.pinned (.plain (OpenSpec.upto treeopsMatchesSpec)) treeopsMatchesUptoCard

/-- THE SECOND FORM's CARD OF 'sentinellaw20.TreeopsQuantifies'. -/
def treeopsQuantifiesUptoCard : Claim7 := { stood := { row := treeopsQuantifiesUptoRow, standIns := [], harness := (true, "c189aaf1133c257e9ebb83768fab4cd01f3019a1ca86069d6444824f4dcf5309"), looks := false }, kinds := [], alts := [], laidByText := true, laidKinds := [.data, .data, .data], laidTests := true, laidLooks := .later }
def TreeopsQuantifiesUptoCardSaid : Prop := Claim7.holds Tryz.pinned (.plain (OpenSpec.upto treeopsQuantifiesSpec)) treeopsQuantifiesUptoCard

/-- THE SECOND FORM's CARD OF 'sentinellaw20.TreeopsPairs'. -/
def treeopsPairsUptoCard : Claim7 := { stood := { row := treeopsPairsUptoRow, standIns := [], harness := (true, "c189aaf1133c257e9ebb83768fab4cd01f3019a1ca86069d6444824f4dcf5309"), looks := false }, kinds := [], alts := [], laidByText := true, laidKinds := [.data, .data, .data], laidTests := true, laidLooks := .later }
def TreeopsPairsUptoCardSaid : Prop := Claim7.holds Tryz.pinned (.plain (OpenSpec.upto treeopsPairsSpec)) treeopsPairsUptoCard

/-- THE SECOND FORM's CARD OF 'sentinellaw20.TreeopsExamples'. -/
def treeopsExamplesUptoCard : Claim7 := { stood := { row := treeopsExamplesUptoRow, standIns := [], harness := (true, "c189aaf1133c257e9ebb83768fab4cd01f3019a1ca86069d6444824f4dcf5309"), looks := false }, kinds := [], alts := [], laidByText := true, laidKinds := [.data, .data, .data], laidTests := true, laidLooks := .later }
def TreeopsExamplesUptoCardSaid : Prop := Claim7.holds Tryz.pinned (.plain (OpenSpec.upto treeopsExamplesSpec)) treeopsExamplesUptoCard

/-- THE SECOND FORM's CARD OF 'sentinellaw20.TreeopsAlgebra'. -/
def treeopsAlgebraUptoCard : Claim7 := { stood := { row := treeopsAlgebraUptoRow, standIns := [], harness := (true, "c189aaf1133c257e9ebb83768fab4cd01f3019a1ca86069d6444824f4dcf5309"), looks := false }, kinds := [], alts := [], laidByText := true, laidKinds := [.data, .data, .data], laidTests := true, laidLooks := .later }
def TreeopsAlgebraUptoCardSaid : Prop := Claim7.holds Tryz.pinned (.plain (OpenSpec.upto treeopsAlgebraSpec)) treeopsAlgebraUptoCard

/-- THE SECOND FORM's CARD OF 'sentinellaw20.TreeopsExists'. -/
def treeopsExistsUptoCard : Claim7 := { stood := { row := treeopsExistsUptoRow, standIns := [], harness := (true, "c189aaf1133c257e9ebb83768fab4cd01f3019a1ca86069d6444824f4dcf5309"), looks := false }, kinds := [], alts := [], laidByText := true, laidKinds := [.data, .data, .data], laidTests := true, laidLooks := .later }
def TreeopsExistsUptoCardSaid : Prop := Claim7.holds Tryz.pinned (.plain (OpenSpec.upto treeopsExistsSpec)) treeopsExistsUptoCard

/-- THE SECOND FORM's CARD OF 'sentinellaw20.TreeopsIncluded'. -/
def treeopsIncludedUptoCard : Claim7 := { stood := { row := treeopsIncludedUptoRow, standIns := [], harness := (true, "c189aaf1133c257e9ebb83768fab4cd01f3019a1ca86069d6444824f4dcf5309"), looks := false }, kinds := [], alts := [], laidByText := true, laidKinds := [.data, .data, .data], laidTests := true, laidLooks := .later }
def TreeopsIncludedUptoCardSaid : Prop := Claim7.holds Tryz.pinned (.plain (OpenSpec.upto treeopsIncludedSpec)) treeopsIncludedUptoCard

/-- THE SECOND FORM's CARD OF 'sentinellaw20.TreeopsSmallest'. -/
def treeopsSmallestUptoCard : Claim7 := { stood := { row := treeopsSmallestUptoRow, standIns := [], harness := (true, "c189aaf1133c257e9ebb83768fab4cd01f3019a1ca86069d6444824f4dcf5309"), looks := false }, kinds := [], alts := [], laidByText := true, laidKinds := [.data, .data, .data], laidTests := true, laidLooks := .later }
def TreeopsSmallestUptoCardSaid : Prop := Claim7.holds Tryz.pinned (.plain (OpenSpec.upto treeopsSmallestSpec)) treeopsSmallestUptoCard

/-- THE SECOND FORM's CARD OF 'sentinellaw20.TreeopsBoolean'. -/
def treeopsBooleanUptoCard : Claim7 := { stood := { row := treeopsBooleanUptoRow, standIns := [], harness := (true, "c189aaf1133c257e9ebb83768fab4cd01f3019a1ca86069d6444824f4dcf5309"), looks := false }, kinds := [], alts := [], laidByText := true, laidKinds := [.data, .data, .data], laidTests := true, laidLooks := .later }
def TreeopsBooleanUptoCardSaid : Prop := Claim7.holds Tryz.pinned (.plain (OpenSpec.upto treeopsBooleanSpec)) treeopsBooleanUptoCard

/-- THE SECOND FORM's CARD OF 'sentinellaw20.TreeopsCounts'. -/
def treeopsCountsUptoCard : Claim7 := { stood := { row := treeopsCountsUptoRow, standIns := [], harness := (true, "c189aaf1133c257e9ebb83768fab4cd01f3019a1ca86069d6444824f4dcf5309"), looks := false }, kinds := [], alts := [], laidByText := true, laidKinds := [.data, .data, .data], laidTests := true, laidLooks := .later }
def TreeopsCountsUptoCardSaid : Prop := Claim7.holds Tryz.pinned (.plain (OpenSpec.upto treeopsCountsSpec)) treeopsCountsUptoCard
end Rows
end Go.Proofs.YthkfjnmnoanhlaaGreatDoor
