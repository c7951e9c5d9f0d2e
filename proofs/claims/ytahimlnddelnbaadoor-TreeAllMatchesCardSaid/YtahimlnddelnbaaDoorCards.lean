/-
  DERIVED. GIVEN WITH THE SEED: THE CARDS: each row of YtahimlnddelnbaaDoorRows.lean that lists a variable, with what it lists TIED to the program's text (the seventh form; the later family's looks); each row that meets fmt, with fmt's text TOLD by the authors' own Lean function (tested against real Go, not proved from fmt's source: count such statements apart). THE CARD IS WHAT COUNTS. Prove the row's statement (the work); the ties are given (YtahimlnddelnbaaDoorTie.lean); close each card by the builder's one call (the guide's Derived/Test/ToyasCard.lean, 'card_holds'). Laid BY PROGRAM, IN A SANDBOX (cutbox-door.mjs). By AI agents, Wed Nov 11 2026. No macro, syntax, notation, axiom, sorry.
-/
import Derived.Test.YtahimlnddelnbaaDoorRows
import GoSem.ClaimSeven
namespace Go.Proofs.YtahimlnddelnbaaDoor
namespace Rows

/-- THE TIED CARD OF 'sentinellaw14.MsoExamples'. -/
def msoExamplesCard : Claim7 := { stood := { row := msoExamplesRow, standIns := [], harness := (true, "f566c59c8443b847c8e9e281b68ff70b699bd9737ad9937891b9784e075dbbfa"), looks := true }, kinds := [], alts := [], laidByText := true, laidKinds := [.data, .pinned], laidTests := true, laidLooks := .later }
def MsoExamplesCardSaid : Prop := Claim7.holds Tryd.pinned (.plain (OpenSpec.ofChange msoExamplesSpec)) msoExamplesCard

/-- THE TIED CARD OF 'sentinellaw15.TreeMatches'. -/
def treeMatchesCard : Claim7 := { stood := { row := treeMatchesRow, standIns := [], harness := (true, "f566c59c8443b847c8e9e281b68ff70b699bd9737ad9937891b9784e075dbbfa"), looks := true }, kinds := [], alts := [], laidByText := true, laidKinds := [.data, .data, .data, .data, .pinned], laidTests := true, laidLooks := .later }
def TreeMatchesCardSaid : Prop := Claim7.holds Tryd.pinned (.plain (OpenSpec.ofChange treeMatchesSpec)) treeMatchesCard

/-- THE TIED CARD OF 'sentinellaw15.TreeJoinMatches'. -/
def treeJoinMatchesCard : Claim7 := { stood := { row := treeJoinMatchesRow, standIns := [], harness := (true, "f566c59c8443b847c8e9e281b68ff70b699bd9737ad9937891b9784e075dbbfa"), looks := true }, kinds := [], alts := [], laidByText := true, laidKinds := [.data, .data, .data, .data, .pinned], laidTests := true, laidLooks := .later }
def TreeJoinMatchesCardSaid : Prop := Claim7.holds Tryd.pinned (.plain (OpenSpec.ofChange treeJoinMatchesSpec)) treeJoinMatchesCard

/-- THE TIED CARD OF 'sentinellaw15.TreeTextMatches'. -/
def treeTextMatchesCard : Claim7 := { stood := { row := treeTextMatchesRow, standIns := [], harness := (true, "f566c59c8443b847c8e9e281b68ff70b699bd9737ad9937891b9784e075dbbfa"), looks := true }, kinds := [], alts := [], laidByText := true, laidKinds := [.data, .data, .data, .data, .pinned], laidTests := true, laidLooks := .later }
def TreeTextMatchesCardSaid : Prop := Claim7.holds Tryd.pinned (.plain (OpenSpec.ofChange treeTextMatchesSpec)) treeTextMatchesCard

/-- THE TIED CARD OF 'sentinellaw15.TreeAllMatches'. -/
def treeAllMatchesCard : Claim7 := { stood := { row := treeAllMatchesRow, standIns := [], harness := (true, "f566c59c8443b847c8e9e281b68ff70b699bd9737ad9937891b9784e075dbbfa"), looks := true }, kinds := [], alts := [], laidByText := true, laidKinds := [.data, .data, .data, .data, .pinned], laidTests := true, laidLooks := .later }
def TreeAllMatchesCardSaid : Prop := Claim7.holds Tryd.pinned (.plain (OpenSpec.ofChange treeAllMatchesSpec)) treeAllMatchesCard

/-- THE TIED CARD OF 'sentinellaw15.TreeRound'. -/
def treeRoundCard : Claim7 := { stood := { row := treeRoundRow, standIns := [], harness := (true, "f566c59c8443b847c8e9e281b68ff70b699bd9737ad9937891b9784e075dbbfa"), looks := true }, kinds := [], alts := [], laidByText := true, laidKinds := [.data, .data, .data, .data, .pinned], laidTests := true, laidLooks := .later }
def TreeRoundCardSaid : Prop := Claim7.holds Tryd.pinned (.plain (OpenSpec.ofChange treeRoundSpec)) treeRoundCard

/-- THE TIED CARD OF 'sentinellaw15.TreeExact'. -/
def treeExactCard : Claim7 := { stood := { row := treeExactRow, standIns := [], harness := (true, "f566c59c8443b847c8e9e281b68ff70b699bd9737ad9937891b9784e075dbbfa"), looks := true }, kinds := [], alts := [], laidByText := true, laidKinds := [.data, .data, .data, .data, .pinned], laidTests := true, laidLooks := .later }
def TreeExactCardSaid : Prop := Claim7.holds Tryd.pinned (.plain (OpenSpec.ofChange treeExactSpec)) treeExactCard

/-- THE TIED CARD OF 'sentinellaw15.TreeJoins'. -/
def treeJoinsCard : Claim7 := { stood := { row := treeJoinsRow, standIns := [], harness := (true, "f566c59c8443b847c8e9e281b68ff70b699bd9737ad9937891b9784e075dbbfa"), looks := true }, kinds := [], alts := [], laidByText := true, laidKinds := [.data, .data, .data, .data, .pinned], laidTests := true, laidLooks := .later }
def TreeJoinsCardSaid : Prop := Claim7.holds Tryd.pinned (.plain (OpenSpec.ofChange treeJoinsSpec)) treeJoinsCard

/-- THE TIED CARD OF 'sentinellaw15.TreeParts'. -/
def treePartsCard : Claim7 := { stood := { row := treePartsRow, standIns := [], harness := (true, "f566c59c8443b847c8e9e281b68ff70b699bd9737ad9937891b9784e075dbbfa"), looks := true }, kinds := [], alts := [], laidByText := true, laidKinds := [.data, .data, .data, .data, .pinned], laidTests := true, laidLooks := .later }
def TreePartsCardSaid : Prop := Claim7.holds Tryd.pinned (.plain (OpenSpec.ofChange treePartsSpec)) treePartsCard

/-- THE TIED CARD OF 'sentinellaw15.TreeMirrors'. -/
def treeMirrorsCard : Claim7 := { stood := { row := treeMirrorsRow, standIns := [], harness := (true, "f566c59c8443b847c8e9e281b68ff70b699bd9737ad9937891b9784e075dbbfa"), looks := true }, kinds := [], alts := [], laidByText := true, laidKinds := [.data, .data, .data, .data, .pinned], laidTests := true, laidLooks := .later }
def TreeMirrorsCardSaid : Prop := Claim7.holds Tryd.pinned (.plain (OpenSpec.ofChange treeMirrorsSpec)) treeMirrorsCard

/-- THE TIED CARD OF 'sentinellaw15.TreeOrder'. -/
def treeOrderCard : Claim7 := { stood := { row := treeOrderRow, standIns := [], harness := (true, "f566c59c8443b847c8e9e281b68ff70b699bd9737ad9937891b9784e075dbbfa"), looks := true }, kinds := [], alts := [], laidByText := true, laidKinds := [.data, .data, .data, .data, .pinned], laidTests := true, laidLooks := .later }
def TreeOrderCardSaid : Prop := Claim7.holds Tryd.pinned (.plain (OpenSpec.ofChange treeOrderSpec)) treeOrderCard

/-- THE TIED CARD OF 'sentinellaw15.TreeLists'. -/
def treeListsCard : Claim7 := { stood := { row := treeListsRow, standIns := [], harness := (true, "f566c59c8443b847c8e9e281b68ff70b699bd9737ad9937891b9784e075dbbfa"), looks := true }, kinds := [], alts := [], laidByText := true, laidKinds := [.data, .data, .data, .data, .pinned], laidTests := true, laidLooks := .later }
def TreeListsCardSaid : Prop := Claim7.holds Tryd.pinned (.plain (OpenSpec.ofChange treeListsSpec)) treeListsCard

/-- THE SECOND FORM's CARD OF 'sentinellaw14.MsoExamples'. -/
def msoExamplesUptoCard : Claim7 := { stood := { row := msoExamplesUptoRow, standIns := [], harness := (true, "f566c59c8443b847c8e9e281b68ff70b699bd9737ad9937891b9784e075dbbfa"), looks := true }, kinds := [], alts := [], laidByText := true, laidKinds := [.data, .pinned], laidTests := true, laidLooks := .later }
def MsoExamplesUptoCardSaid : Prop := Claim7.holds Tryd.pinned (.plain (OpenSpec.upto msoExamplesSpec)) msoExamplesUptoCard

/-- THE SECOND FORM's CARD OF 'sentinellaw15.TreeMatches'. -/
def treeMatchesUptoCard : Claim7 := { stood := { row := treeMatchesUptoRow, standIns := [], harness := (true, "f566c59c8443b847c8e9e281b68ff70b699bd9737ad9937891b9784e075dbbfa"), looks := true }, kinds := [], alts := [], laidByText := true, laidKinds := [.data, .data, .data, .data, .pinned], laidTests := true, laidLooks := .later }
def TreeMatchesUptoCardSaid : Prop := Claim7.holds Tryd.pinned (.plain (OpenSpec.upto treeMatchesSpec)) treeMatchesUptoCard

/-- THE SECOND FORM's CARD OF 'sentinellaw15.TreeJoinMatches'. -/
def treeJoinMatchesUptoCard : Claim7 := { stood := { row := treeJoinMatchesUptoRow, standIns := [], harness := (true, "f566c59c8443b847c8e9e281b68ff70b699bd9737ad9937891b9784e075dbbfa"), looks := true }, kinds := [], alts := [], laidByText := true, laidKinds := [.data, .data, .data, .data, .pinned], laidTests := true, laidLooks := .later }
def TreeJoinMatchesUptoCardSaid : Prop := Claim7.holds Tryd.pinned (.plain (OpenSpec.upto treeJoinMatchesSpec)) treeJoinMatchesUptoCard

/-- THE SECOND FORM's CARD OF 'sentinellaw15.TreeTextMatches'. -/
def treeTextMatchesUptoCard : Claim7 := { stood := { row := treeTextMatchesUptoRow, standIns := [], harness := (true, "f566c59c8443b847c8e9e281b68ff70b699bd9737ad9937891b9784e075dbbfa"), looks := true }, kinds := [], alts := [], laidByText := true, laidKinds := [.data, .data, .data, .data, .pinned], laidTests := true, laidLooks := .later }
def TreeTextMatchesUptoCardSaid : Prop := Claim7.holds Tryd.pinned (.plain (OpenSpec.upto treeTextMatchesSpec)) treeTextMatchesUptoCard

/-- THE SECOND FORM's CARD OF 'sentinellaw15.TreeAllMatches'. -/
def treeAllMatchesUptoCard : Claim7 := { stood := { row := treeAllMatchesUptoRow, standIns := [], harness := (true, "f566c59c8443b847c8e9e281b68ff70b699bd9737ad9937891b9784e075dbbfa"), looks := true }, kinds := [], alts := [], laidByText := true, laidKinds := [.data, .data, .data, .data, .pinned], laidTests := true, laidLooks := .later }
def TreeAllMatchesUptoCardSaid : Prop := Claim7.holds Tryd.pinned (.plain (OpenSpec.upto treeAllMatchesSpec)) treeAllMatchesUptoCard

/-- THE SECOND FORM's CARD OF 'sentinellaw15.TreeRound'. -/
def treeRoundUptoCard : Claim7 := { stood := { row := treeRoundUptoRow, standIns := [], harness := (true, "f566c59c8443b847c8e9e281b68ff70b699bd9737ad9937891b9784e075dbbfa"), looks := true }, kinds := [], alts := [], laidByText := true, laidKinds := [.data, .data, .data, .data, .pinned], laidTests := true, laidLooks := .later }
def TreeRoundUptoCardSaid : Prop := Claim7.holds Tryd.pinned (.plain (OpenSpec.upto treeRoundSpec)) treeRoundUptoCard

/-- THE SECOND FORM's CARD OF 'sentinellaw15.TreeExact'. -/
def treeExactUptoCard : Claim7 := { stood := { row := treeExactUptoRow, standIns := [], harness := (true, "f566c59c8443b847c8e9e281b68ff70b699bd9737ad9937891b9784e075dbbfa"), looks := true }, kinds := [], alts := [], laidByText := true, laidKinds := [.data, .data, .data, .data, .pinned], laidTests := true, laidLooks := .later }
def TreeExactUptoCardSaid : Prop := Claim7.holds Tryd.pinned (.plain (OpenSpec.upto treeExactSpec)) treeExactUptoCard

/-- THE SECOND FORM's CARD OF 'sentinellaw15.TreeJoins'. -/
def treeJoinsUptoCard : Claim7 := { stood := { row := treeJoinsUptoRow, standIns := [], harness := (true, "f566c59c8443b847c8e9e281b68ff70b699bd9737ad9937891b9784e075dbbfa"), looks := true }, kinds := [], alts := [], laidByText := true, laidKinds := [.data, .data, .data, .data, .pinned], laidTests := true, laidLooks := .later }
def TreeJoinsUptoCardSaid : Prop := Claim7.holds Tryd.pinned (.plain (OpenSpec.upto treeJoinsSpec)) treeJoinsUptoCard

/-- THE SECOND FORM's CARD OF 'sentinellaw15.TreeParts'. -/
def treePartsUptoCard : Claim7 := { stood := { row := treePartsUptoRow, standIns := [], harness := (true, "f566c59c8443b847c8e9e281b68ff70b699bd9737ad9937891b9784e075dbbfa"), looks := true }, kinds := [], alts := [], laidByText := true, laidKinds := [.data, .data, .data, .data, .pinned], laidTests := true, laidLooks := .later }
def TreePartsUptoCardSaid : Prop := Claim7.holds Tryd.pinned (.plain (OpenSpec.upto treePartsSpec)) treePartsUptoCard

/-- THE SECOND FORM's CARD OF 'sentinellaw15.TreeMirrors'. -/
def treeMirrorsUptoCard : Claim7 := { stood := { row := treeMirrorsUptoRow, standIns := [], harness := (true, "f566c59c8443b847c8e9e281b68ff70b699bd9737ad9937891b9784e075dbbfa"), looks := true }, kinds := [], alts := [], laidByText := true, laidKinds := [.data, .data, .data, .data, .pinned], laidTests := true, laidLooks := .later }
def TreeMirrorsUptoCardSaid : Prop := Claim7.holds Tryd.pinned (.plain (OpenSpec.upto treeMirrorsSpec)) treeMirrorsUptoCard

/-- THE SECOND FORM's CARD OF 'sentinellaw15.TreeOrder'. -/
def treeOrderUptoCard : Claim7 := { stood := { row := treeOrderUptoRow, standIns := [], harness := (true, "f566c59c8443b847c8e9e281b68ff70b699bd9737ad9937891b9784e075dbbfa"), looks := true }, kinds := [], alts := [], laidByText := true, laidKinds := [.data, .data, .data, .data, .pinned], laidTests := true, laidLooks := .later }
def TreeOrderUptoCardSaid : Prop := Claim7.holds Tryd.pinned (.plain (OpenSpec.upto treeOrderSpec)) treeOrderUptoCard

/-- THE SECOND FORM's CARD OF 'sentinellaw15.TreeLists'. -/
def treeListsUptoCard : Claim7 := { stood := { row := treeListsUptoRow, standIns := [], harness := (true, "f566c59c8443b847c8e9e281b68ff70b699bd9737ad9937891b9784e075dbbfa"), looks := true }, kinds := [], alts := [], laidByText := true, laidKinds := [.data, .data, .data, .data, .pinned], laidTests := true, laidLooks := .later }
def TreeListsUptoCardSaid : Prop := Claim7.holds Tryd.pinned (.plain (OpenSpec.upto treeListsSpec)) treeListsUptoCard
end Rows
end Go.Proofs.YtahimlnddelnbaaDoor
