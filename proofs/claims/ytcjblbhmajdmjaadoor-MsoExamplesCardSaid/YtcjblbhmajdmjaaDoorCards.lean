/-
  DERIVED. GIVEN WITH THE SEED: THE CARDS: each row of YtcjblbhmajdmjaaDoorRows.lean that lists a variable, with what it lists TIED to the program's text (the seventh form; the later family's looks); each row that meets fmt, with fmt's text TOLD by the authors' own Lean function (tested against real Go, not proved from fmt's source: count such statements apart). THE CARD IS WHAT COUNTS. Prove the row's statement (the work); the ties are given (YtcjblbhmajdmjaaDoorTie.lean); close each card by the builder's one call (the guide's Derived/Test/ToyasCard.lean, 'card_holds'). Laid BY PROGRAM, IN A SANDBOX (cutbox-door.mjs). By AI agents, Wed Nov 11 2026. No macro, syntax, notation, axiom, sorry.
-/
import Derived.Test.YtcjblbhmajdmjaaDoorRows
import GoSem.ClaimSeven
namespace Go.Proofs.YtcjblbhmajdmjaaDoor
namespace Rows

/-- THE TIED CARD OF 'sentinellaw14.MsoExamples'. -/
def msoExamplesCard : Claim7 := { stood := { row := msoExamplesRow, standIns := [], harness := (true, "9bcea01006a0480d1c6c0f4f16d357cc5dac0d5de55c6835ed4ad4f8a0d7585e"), looks := true }, kinds := [], alts := [], laidByText := true, laidKinds := [.data, .pinned], laidTests := true, laidLooks := .later }
def MsoExamplesCardSaid : Prop := Claim7.holds Tryd.pinned (.plain (OpenSpec.ofChange msoExamplesSpec)) msoExamplesCard

/-- THE SECOND FORM's CARD OF 'sentinellaw14.MsoExamples'. -/
def msoExamplesUptoCard : Claim7 := { stood := { row := msoExamplesUptoRow, standIns := [], harness := (true, "9bcea01006a0480d1c6c0f4f16d357cc5dac0d5de55c6835ed4ad4f8a0d7585e"), looks := true }, kinds := [], alts := [], laidByText := true, laidKinds := [.data, .pinned], laidTests := true, laidLooks := .later }
def MsoExamplesUptoCardSaid : Prop := Claim7.holds Tryd.pinned (.plain (OpenSpec.upto msoExamplesSpec)) msoExamplesUptoCard
end Rows
end Go.Proofs.YtcjblbhmajdmjaaDoor
