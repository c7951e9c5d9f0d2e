/-
  DERIVED. GIVEN WITH THE SEED: THE CARDS: each row of YtbggpiednddheaaDoorRows.lean that lists a variable, with what it lists TIED to the program's text (the seventh form; the later family's looks); each row that meets fmt, with fmt's text TOLD by the authors' own Lean function (tested against real Go, not proved from fmt's source: count such statements apart). THE CARD IS WHAT COUNTS. Prove the row's statement (the work); the ties are given (YtbggpiednddheaaDoorTie.lean); close each card by the builder's one call (the guide's Derived/Test/ToyasCard.lean, 'card_holds'). Laid BY PROGRAM, IN A SANDBOX (cutbox-door.mjs). By AI agents, Wed Nov 11 2026. No macro, syntax, notation, axiom, sorry.
-/
import Derived.Test.YtbggpiednddheaaDoorRows
import GoSem.ClaimSeven
namespace Go.Proofs.YtbggpiednddheaaDoor
namespace Rows

/-- THE TIED CARD OF 'sentinellaw14.MsoMatches'. -/
def msoMatchesCard : Claim7 := { stood := { row := msoMatchesRow, standIns := [], harness := (true, "dd803f37f2c397b3c1e860a2433a77637664bed2d04a502b3c467d113685e580"), looks := true }, kinds := [], alts := [], laidByText := true, laidKinds := [.data, .pinned], laidTests := true, laidLooks := .later }
def MsoMatchesCardSaid : Prop := Claim7.holds Tryd.pinned (.plain (OpenSpec.ofChange msoMatchesSpec)) msoMatchesCard

/-- THE TIED CARD OF 'sentinellaw14.MsoJoinMatches'. -/
def msoJoinMatchesCard : Claim7 := { stood := { row := msoJoinMatchesRow, standIns := [], harness := (true, "dd803f37f2c397b3c1e860a2433a77637664bed2d04a502b3c467d113685e580"), looks := true }, kinds := [], alts := [], laidByText := true, laidKinds := [.data, .pinned], laidTests := true, laidLooks := .later }
def MsoJoinMatchesCardSaid : Prop := Claim7.holds Tryd.pinned (.plain (OpenSpec.ofChange msoJoinMatchesSpec)) msoJoinMatchesCard

/-- THE TIED CARD OF 'sentinellaw14.MsoTextMatches'. -/
def msoTextMatchesCard : Claim7 := { stood := { row := msoTextMatchesRow, standIns := [], harness := (true, "dd803f37f2c397b3c1e860a2433a77637664bed2d04a502b3c467d113685e580"), looks := true }, kinds := [], alts := [], laidByText := true, laidKinds := [.data, .pinned], laidTests := true, laidLooks := .later }
def MsoTextMatchesCardSaid : Prop := Claim7.holds Tryd.pinned (.plain (OpenSpec.ofChange msoTextMatchesSpec)) msoTextMatchesCard

/-- THE TIED CARD OF 'sentinellaw14.MsoExamples'. -/
def msoExamplesCard : Claim7 := { stood := { row := msoExamplesRow, standIns := [], harness := (true, "dd803f37f2c397b3c1e860a2433a77637664bed2d04a502b3c467d113685e580"), looks := true }, kinds := [], alts := [], laidByText := true, laidKinds := [.data, .pinned], laidTests := true, laidLooks := .later }
def MsoExamplesCardSaid : Prop := Claim7.holds Tryd.pinned (.plain (OpenSpec.ofChange msoExamplesSpec)) msoExamplesCard

/-- THE TIED CARD OF 'sentinellaw14.MsoRound'. -/
def msoRoundCard : Claim7 := { stood := { row := msoRoundRow, standIns := [], harness := (true, "dd803f37f2c397b3c1e860a2433a77637664bed2d04a502b3c467d113685e580"), looks := true }, kinds := [], alts := [], laidByText := true, laidKinds := [.data, .pinned], laidTests := true, laidLooks := .later }
def MsoRoundCardSaid : Prop := Claim7.holds Tryd.pinned (.plain (OpenSpec.ofChange msoRoundSpec)) msoRoundCard

/-- THE TIED CARD OF 'sentinellaw14.MsoExact'. -/
def msoExactCard : Claim7 := { stood := { row := msoExactRow, standIns := [], harness := (true, "dd803f37f2c397b3c1e860a2433a77637664bed2d04a502b3c467d113685e580"), looks := true }, kinds := [], alts := [], laidByText := true, laidKinds := [.data, .pinned], laidTests := true, laidLooks := .later }
def MsoExactCardSaid : Prop := Claim7.holds Tryd.pinned (.plain (OpenSpec.ofChange msoExactSpec)) msoExactCard

/-- THE TIED CARD OF 'sentinellaw14.MsoBlocks'. -/
def msoBlocksCard : Claim7 := { stood := { row := msoBlocksRow, standIns := [], harness := (true, "dd803f37f2c397b3c1e860a2433a77637664bed2d04a502b3c467d113685e580"), looks := true }, kinds := [], alts := [], laidByText := true, laidKinds := [.data, .pinned], laidTests := true, laidLooks := .later }
def MsoBlocksCardSaid : Prop := Claim7.holds Tryd.pinned (.plain (OpenSpec.ofChange msoBlocksSpec)) msoBlocksCard

/-- THE TIED CARD OF 'sentinellaw14.MsoFree'. -/
def msoFreeCard : Claim7 := { stood := { row := msoFreeRow, standIns := [], harness := (true, "dd803f37f2c397b3c1e860a2433a77637664bed2d04a502b3c467d113685e580"), looks := true }, kinds := [], alts := [], laidByText := true, laidKinds := [.data, .pinned], laidTests := true, laidLooks := .later }
def MsoFreeCardSaid : Prop := Claim7.holds Tryd.pinned (.plain (OpenSpec.ofChange msoFreeSpec)) msoFreeCard

/-- THE TIED CARD OF 'sentinellaw14.MsoVariables'. -/
def msoVariablesCard : Claim7 := { stood := { row := msoVariablesRow, standIns := [], harness := (true, "dd803f37f2c397b3c1e860a2433a77637664bed2d04a502b3c467d113685e580"), looks := true }, kinds := [], alts := [], laidByText := true, laidKinds := [.data, .pinned], laidTests := true, laidLooks := .later }
def MsoVariablesCardSaid : Prop := Claim7.holds Tryd.pinned (.plain (OpenSpec.ofChange msoVariablesSpec)) msoVariablesCard

/-- THE TIED CARD OF 'sentinellaw14.MsoSubstitutes'. -/
def msoSubstitutesCard : Claim7 := { stood := { row := msoSubstitutesRow, standIns := [], harness := (true, "dd803f37f2c397b3c1e860a2433a77637664bed2d04a502b3c467d113685e580"), looks := true }, kinds := [], alts := [], laidByText := true, laidKinds := [.data, .pinned], laidTests := true, laidLooks := .later }
def MsoSubstitutesCardSaid : Prop := Claim7.holds Tryd.pinned (.plain (OpenSpec.ofChange msoSubstitutesSpec)) msoSubstitutesCard

/-- THE SECOND FORM's CARD OF 'sentinellaw14.MsoMatches'. -/
def msoMatchesUptoCard : Claim7 := { stood := { row := msoMatchesUptoRow, standIns := [], harness := (true, "dd803f37f2c397b3c1e860a2433a77637664bed2d04a502b3c467d113685e580"), looks := true }, kinds := [], alts := [], laidByText := true, laidKinds := [.data, .pinned], laidTests := true, laidLooks := .later }
def MsoMatchesUptoCardSaid : Prop := Claim7.holds Tryd.pinned (.plain (OpenSpec.upto msoMatchesSpec)) msoMatchesUptoCard

/-- THE SECOND FORM's CARD OF 'sentinellaw14.MsoJoinMatches'. -/
def msoJoinMatchesUptoCard : Claim7 := { stood := { row := msoJoinMatchesUptoRow, standIns := [], harness := (true, "dd803f37f2c397b3c1e860a2433a77637664bed2d04a502b3c467d113685e580"), looks := true }, kinds := [], alts := [], laidByText := true, laidKinds := [.data, .pinned], laidTests := true, laidLooks := .later }
def MsoJoinMatchesUptoCardSaid : Prop := Claim7.holds Tryd.pinned (.plain (OpenSpec.upto msoJoinMatchesSpec)) msoJoinMatchesUptoCard

/-- THE SECOND FORM's CARD OF 'sentinellaw14.MsoTextMatches'. -/
def msoTextMatchesUptoCard : Claim7 := { stood := { row := msoTextMatchesUptoRow, standIns := [], harness := (true, "dd803f37f2c397b3c1e860a2433a77637664bed2d04a502b3c467d113685e580"), looks := true }, kinds := [], alts := [], laidByText := true, laidKinds := [.data, .pinned], laidTests := true, laidLooks := .later }
def MsoTextMatchesUptoCardSaid : Prop := Claim7.holds Tryd.pinned (.plain (OpenSpec.upto msoTextMatchesSpec)) msoTextMatchesUptoCard

/-- THE SECOND FORM's CARD OF 'sentinellaw14.MsoExamples'. -/
def msoExamplesUptoCard : Claim7 := { stood := { row := msoExamplesUptoRow, standIns := [], harness := (true, "dd803f37f2c397b3c1e860a2433a77637664bed2d04a502b3c467d113685e580"), looks := true }, kinds := [], alts := [], laidByText := true, laidKinds := [.data, .pinned], laidTests := true, laidLooks := .later }
def MsoExamplesUptoCardSaid : Prop := Claim7.holds Tryd.pinned (.plain (OpenSpec.upto msoExamplesSpec)) msoExamplesUptoCard

/-- THE SECOND FORM's CARD OF 'sentinellaw14.MsoRound'. -/
def msoRoundUptoCard : Claim7 := { stood := { row := msoRoundUptoRow, standIns := [], harness := (true, "dd803f37f2c397b3c1e860a2433a77637664bed2d04a502b3c467d113685e580"), looks := true }, kinds := [], alts := [], laidByText := true, laidKinds := [.data, .pinned], laidTests := true, laidLooks := .later }
def MsoRoundUptoCardSaid : Prop := Claim7.holds Tryd.pinned (.plain (OpenSpec.upto msoRoundSpec)) msoRoundUptoCard

/-- THE SECOND FORM's CARD OF 'sentinellaw14.MsoExact'. -/
def msoExactUptoCard : Claim7 := { stood := { row := msoExactUptoRow, standIns := [], harness := (true, "dd803f37f2c397b3c1e860a2433a77637664bed2d04a502b3c467d113685e580"), looks := true }, kinds := [], alts := [], laidByText := true, laidKinds := [.data, .pinned], laidTests := true, laidLooks := .later }
def MsoExactUptoCardSaid : Prop := Claim7.holds Tryd.pinned (.plain (OpenSpec.upto msoExactSpec)) msoExactUptoCard

/-- THE SECOND FORM's CARD OF 'sentinellaw14.MsoBlocks'. -/
def msoBlocksUptoCard : Claim7 := { stood := { row := msoBlocksUptoRow, standIns := [], harness := (true, "dd803f37f2c397b3c1e860a2433a77637664bed2d04a502b3c467d113685e580"), looks := true }, kinds := [], alts := [], laidByText := true, laidKinds := [.data, .pinned], laidTests := true, laidLooks := .later }
def MsoBlocksUptoCardSaid : Prop := Claim7.holds Tryd.pinned (.plain (OpenSpec.upto msoBlocksSpec)) msoBlocksUptoCard

/-- THE SECOND FORM's CARD OF 'sentinellaw14.MsoFree'. -/
def msoFreeUptoCard : Claim7 := { stood := { row := msoFreeUptoRow, standIns := [], harness := (true, "dd803f37f2c397b3c1e860a2433a77637664bed2d04a502b3c467d113685e580"), looks := true }, kinds := [], alts := [], laidByText := true, laidKinds := [.data, .pinned], laidTests := true, laidLooks := .later }
def MsoFreeUptoCardSaid : Prop := Claim7.holds Tryd.pinned (.plain (OpenSpec.upto msoFreeSpec)) msoFreeUptoCard

/-- THE SECOND FORM's CARD OF 'sentinellaw14.MsoVariables'. -/
def msoVariablesUptoCard : Claim7 := { stood := { row := msoVariablesUptoRow, standIns := [], harness := (true, "dd803f37f2c397b3c1e860a2433a77637664bed2d04a502b3c467d113685e580"), looks := true }, kinds := [], alts := [], laidByText := true, laidKinds := [.data, .pinned], laidTests := true, laidLooks := .later }
def MsoVariablesUptoCardSaid : Prop := Claim7.holds Tryd.pinned (.plain (OpenSpec.upto msoVariablesSpec)) msoVariablesUptoCard

/-- THE SECOND FORM's CARD OF 'sentinellaw14.MsoSubstitutes'. -/
def msoSubstitutesUptoCard : Claim7 := { stood := { row := msoSubstitutesUptoRow, standIns := [], harness := (true, "dd803f37f2c397b3c1e860a2433a77637664bed2d04a502b3c467d113685e580"), looks := true }, kinds := [], alts := [], laidByText := true, laidKinds := [.data, .pinned], laidTests := true, laidLooks := .later }
def MsoSubstitutesUptoCardSaid : Prop := Claim7.holds Tryd.pinned (.plain (OpenSpec.upto msoSubstitutesSpec)) msoSubstitutesUptoCard
end Rows
end Go.Proofs.YtbggpiednddheaaDoor
