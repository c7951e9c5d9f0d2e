/-
  DERIVED. GIVEN WITH THE SEED: THE CARDS: each row of YthdabkmkgkkmcaaGreatDoorRows.lean that lists a variable, with what it lists TIED to the program's text (the seventh form; the later family's looks); each row that meets fmt, with fmt's text TOLD by the authors' own Lean function (tested against real Go, not proved from fmt's source: count such statements apart). THE CARD IS WHAT COUNTS. Prove the row's statement (the work); the ties are given (YthdabkmkgkkmcaaGreatDoorTie.lean); close each card by the builder's one call (the guide's Derived/Test/ToyasCard.lean, 'card_holds'). Laid BY PROGRAM, IN A SANDBOX (cutbox-door.mjs). By AI agents, Wed Nov 11 2026. No macro, syntax, notation, axiom, sorry.
-/
import Derived.Test.YthdabkmkgkkmcaaGreatDoorRows
import GoSem.ClaimSeven
namespace Go.Proofs.YthdabkmkgkkmcaaGreatDoor
namespace Rows

/-- THE TIED CARD OF 'sentinellaw21.MsotreeMirror'. -/
def msotreeMirrorCard : Claim7 := { stood := { row := msotreeMirrorRow, standIns := [], harness := (true, "d64d02c82b2413a77370178fa3a78630c601e58567c451c1756b16eedef31f31"), looks := true }, kinds := [], alts := [], laidByText := true, laidKinds := [.data, .data, .data, .data, .pinned], laidTests := true, laidLooks := .later }
def MsotreeMirrorCardSaid : Prop := Claim7.holds Tryz.pinned (.plain (OpenSpec.ofChange msotreeMirrorSpec)) msotreeMirrorCard

/-- THE TIED CARD OF 'sentinellaw21.MsotreeLaws'. -/
def msotreeLawsCard : Claim7 := { stood := { row := msotreeLawsRow, standIns := [], harness := (true, "d64d02c82b2413a77370178fa3a78630c601e58567c451c1756b16eedef31f31"), looks := true }, kinds := [], alts := [], laidByText := true, laidKinds := [.data, .data, .data, .data, .pinned], laidTests := true, laidLooks := .later }
def MsotreeLawsCardSaid : Prop := Claim7.holds Tryz.pinned (.plain (OpenSpec.ofChange msotreeLawsSpec)) msotreeLawsCard

/-- THE TIED CARD OF 'sentinellaw21.MsotreeIgnores'. -/
def msotreeIgnoresCard : Claim7 := { stood := { row := msotreeIgnoresRow, standIns := [], harness := (true, "d64d02c82b2413a77370178fa3a78630c601e58567c451c1756b16eedef31f31"), looks := true }, kinds := [], alts := [], laidByText := true, laidKinds := [.data, .data, .data, .data, .pinned], laidTests := true, laidLooks := .later }
def MsotreeIgnoresCardSaid : Prop := Claim7.holds Tryz.pinned (.plain (OpenSpec.ofChange msotreeIgnoresSpec)) msotreeIgnoresCard

/-- THE TIED CARD OF 'sentinellaw21.MsotreeBoolean'. -/
def msotreeBooleanCard : Claim7 := { stood := { row := msotreeBooleanRow, standIns := [], harness := (true, "d64d02c82b2413a77370178fa3a78630c601e58567c451c1756b16eedef31f31"), looks := true }, kinds := [], alts := [], laidByText := true, laidKinds := [.data, .data, .data, .data, .pinned], laidTests := true, laidLooks := .later }
def MsotreeBooleanCardSaid : Prop := Claim7.holds Tryz.pinned (.plain (OpenSpec.ofChange msotreeBooleanSpec)) msotreeBooleanCard

/-- THE TIED CARD OF 'sentinellaw21.MsotreeWitness'. -/
def msotreeWitnessCard : Claim7 := { stood := { row := msotreeWitnessRow, standIns := [], harness := (true, "d64d02c82b2413a77370178fa3a78630c601e58567c451c1756b16eedef31f31"), looks := true }, kinds := [], alts := [], laidByText := true, laidKinds := [.data, .data, .data, .data, .pinned], laidTests := true, laidLooks := .later }
def MsotreeWitnessCardSaid : Prop := Claim7.holds Tryz.pinned (.plain (OpenSpec.ofChange msotreeWitnessSpec)) msotreeWitnessCard

/-- THE TIED CARD OF 'sentinellaw21.MsotreeAgrees'. -/
def msotreeAgreesCard : Claim7 := { stood := { row := msotreeAgreesRow, standIns := [], harness := (true, "d64d02c82b2413a77370178fa3a78630c601e58567c451c1756b16eedef31f31"), looks := true }, kinds := [], alts := [], laidByText := true, laidKinds := [.data, .data, .data, .data, .pinned], laidTests := true, laidLooks := .later }
def MsotreeAgreesCardSaid : Prop := Claim7.holds Tryz.pinned (.plain (OpenSpec.ofChange msotreeAgreesSpec)) msotreeAgreesCard

/-- THE SECOND FORM's CARD OF 'sentinellaw21.MsotreeMirror'. -/
def msotreeMirrorUptoCard : Claim7 := { stood := { row := msotreeMirrorUptoRow, standIns := [], harness := (true, "d64d02c82b2413a77370178fa3a78630c601e58567c451c1756b16eedef31f31"), looks := true }, kinds := [], alts := [], laidByText := true, laidKinds := [.data, .data, .data, .data, .pinned], laidTests := true, laidLooks := .later }
def MsotreeMirrorUptoCardSaid : Prop := Claim7.holds Tryz.pinned (.plain (OpenSpec.upto msotreeMirrorSpec)) msotreeMirrorUptoCard

/-- THE SECOND FORM's CARD OF 'sentinellaw21.MsotreeLaws'. -/
def msotreeLawsUptoCard : Claim7 := { stood := { row := msotreeLawsUptoRow, standIns := [], harness := (true, "d64d02c82b2413a77370178fa3a78630c601e58567c451c1756b16eedef31f31"), looks := true }, kinds := [], alts := [], laidByText := true, laidKinds := [.data, .data, .data, .data, .pinned], laidTests := true, laidLooks := .later }
def MsotreeLawsUptoCardSaid : Prop := Claim7.holds Tryz.pinned (.plain (OpenSpec.upto msotreeLawsSpec)) msotreeLawsUptoCard

/-- THE SECOND FORM's CARD OF 'sentinellaw21.MsotreeIgnores'. -/
def msotreeIgnoresUptoCard : Claim7 := { stood := { row := msotreeIgnoresUptoRow, standIns := [], harness := (true, "d64d02c82b2413a77370178fa3a78630c601e58567c451c1756b16eedef31f31"), looks := true }, kinds := [], alts := [], laidByText := true, laidKinds := [.data, .data, .data, .data, .pinned], laidTests := true, laidLooks := .later }
def MsotreeIgnoresUptoCardSaid : Prop := Claim7.holds Tryz.pinned (.plain (OpenSpec.upto msotreeIgnoresSpec)) msotreeIgnoresUptoCard

/-- THE SECOND FORM's CARD OF 'sentinellaw21.MsotreeBoolean'. -/
def msotreeBooleanUptoCard : Claim7 := { stood := { row := msotreeBooleanUptoRow, standIns := [], harness := (true, "d64d02c82b2413a77370178fa3a78630c601e58567c451c1756b16eedef31f31"), looks := true }, kinds := [], alts := [], laidByText := true, laidKinds := [.data, .data, .data, .data, .pinned], laidTests := true, laidLooks := .later }
def MsotreeBooleanUptoCardSaid : Prop := Claim7.holds Tryz.pinned (.plain (OpenSpec.upto msotreeBooleanSpec)) msotreeBooleanUptoCard

/-- THE SECOND FORM's CARD OF 'sentinellaw21.MsotreeWitness'. -/
def msotreeWitnessUptoCard : Claim7 := { stood := { row := msotreeWitnessUptoRow, standIns := [], harness := (true, "d64d02c82b2413a77370178fa3a78630c601e58567c451c1756b16eedef31f31"), looks := true }, kinds := [], alts := [], laidByText := true, laidKinds := [.data, .data, .data, .data, .pinned], laidTests := true, laidLooks := .later }
def MsotreeWitnessUptoCardSaid : Prop := Claim7.holds Tryz.pinned (.plain (OpenSpec.upto msotreeWitnessSpec)) msotreeWitnessUptoCard

/-- THE SECOND FORM's CARD OF 'sentinellaw21.MsotreeAgrees'. -/
def msotreeAgreesUptoCard : Claim7 := { stood := { row := msotreeAgreesUptoRow, standIns := [], harness := (true, "d64d02c82b2413a77370178fa3a78630c601e58567c451c1756b16eedef31f31"), looks := true }, kinds := [], alts := [], laidByText := true, laidKinds := [.data, .data, .data, .data, .pinned], laidTests := true, laidLooks := .later }
def MsotreeAgreesUptoCardSaid : Prop := Claim7.holds Tryz.pinned (.plain (OpenSpec.upto msotreeAgreesSpec)) msotreeAgreesUptoCard
end Rows
end Go.Proofs.YthdabkmkgkkmcaaGreatDoor
