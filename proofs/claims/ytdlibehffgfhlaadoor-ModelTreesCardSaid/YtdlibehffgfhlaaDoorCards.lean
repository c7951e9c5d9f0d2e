/-
  DERIVED. GIVEN WITH THE SEED: THE CARDS: each row of YtdlibehffgfhlaaDoorRows.lean that lists a variable, with what it lists TIED to the program's text (the seventh form; the later family's looks); each row that meets fmt, with fmt's text TOLD by the authors' own Lean function (tested against real Go, not proved from fmt's source: count such statements apart). THE CARD IS WHAT COUNTS. Prove the row's statement (the work); the ties are given (YtdlibehffgfhlaaDoorTie.lean); close each card by the builder's one call (the guide's Derived/Test/ToyasCard.lean, 'card_holds'). Laid BY PROGRAM, IN A SANDBOX (cutbox-door.mjs). By AI agents, Wed Nov 11 2026. No macro, syntax, notation, axiom, sorry.
-/
import Derived.Test.YtdlibehffgfhlaaDoorRows
import GoSem.ClaimSeven
namespace Go.Proofs.YtdlibehffgfhlaaDoor
namespace Rows

/-- THE TIED CARD OF 'sentinellaw14.MsoExamples'. -/
def msoExamplesCard : Claim7 := { stood := { row := msoExamplesRow, standIns := [], harness := (true, "16f50036a596b48d2c9e80b6ecdc805067e7d5c18ef00953ebf20eb9dbe01811"), looks := true }, kinds := [], alts := [], laidByText := true, laidKinds := [.data, .pinned], laidTests := true, laidLooks := .later }
def MsoExamplesCardSaid : Prop := Claim7.holds Tryd.pinned (.plain (OpenSpec.ofChange msoExamplesSpec)) msoExamplesCard

/-- THE TIED CARD OF 'sentinellaw16.ModelWords'. -/
def modelWordsCard : Claim7 := { stood := { row := modelWordsRow, standIns := [], harness := (true, "16f50036a596b48d2c9e80b6ecdc805067e7d5c18ef00953ebf20eb9dbe01811"), looks := true }, kinds := [], alts := [], laidByText := true, laidKinds := [.data, .data, .pinned], laidTests := true, laidLooks := .later }
def ModelWordsCardSaid : Prop := Claim7.holds Tryd.pinned (.plain (OpenSpec.ofChange modelWordsSpec)) modelWordsCard

/-- THE TIED CARD OF 'sentinellaw16.ModelTrees'. -/
def modelTreesCard : Claim7 := { stood := { row := modelTreesRow, standIns := [], harness := (true, "16f50036a596b48d2c9e80b6ecdc805067e7d5c18ef00953ebf20eb9dbe01811"), looks := true }, kinds := [], alts := [], laidByText := true, laidKinds := [.data, .data, .pinned], laidTests := true, laidLooks := .later }
def ModelTreesCardSaid : Prop := Claim7.holds Tryd.pinned (.plain (OpenSpec.ofChange modelTreesSpec)) modelTreesCard

/-- THE TIED CARD OF 'sentinellaw16.ModelExamples'. -/
def modelExamplesCard : Claim7 := { stood := { row := modelExamplesRow, standIns := [], harness := (true, "16f50036a596b48d2c9e80b6ecdc805067e7d5c18ef00953ebf20eb9dbe01811"), looks := true }, kinds := [], alts := [], laidByText := true, laidKinds := [.data, .data, .pinned], laidTests := true, laidLooks := .later }
def ModelExamplesCardSaid : Prop := Claim7.holds Tryd.pinned (.plain (OpenSpec.ofChange modelExamplesSpec)) modelExamplesCard

/-- THE TIED CARD OF 'sentinellaw16.ModelOrder'. -/
def modelOrderCard : Claim7 := { stood := { row := modelOrderRow, standIns := [], harness := (true, "16f50036a596b48d2c9e80b6ecdc805067e7d5c18ef00953ebf20eb9dbe01811"), looks := true }, kinds := [], alts := [], laidByText := true, laidKinds := [.data, .data, .pinned], laidTests := true, laidLooks := .later }
def ModelOrderCardSaid : Prop := Claim7.holds Tryd.pinned (.plain (OpenSpec.ofChange modelOrderSpec)) modelOrderCard

/-- THE TIED CARD OF 'sentinellaw16.ModelPaths'. -/
def modelPathsCard : Claim7 := { stood := { row := modelPathsRow, standIns := [], harness := (true, "16f50036a596b48d2c9e80b6ecdc805067e7d5c18ef00953ebf20eb9dbe01811"), looks := true }, kinds := [], alts := [], laidByText := true, laidKinds := [.data, .data, .pinned], laidTests := true, laidLooks := .later }
def ModelPathsCardSaid : Prop := Claim7.holds Tryd.pinned (.plain (OpenSpec.ofChange modelPathsSpec)) modelPathsCard

/-- THE TIED CARD OF 'sentinellaw16.ModelExists'. -/
def modelExistsCard : Claim7 := { stood := { row := modelExistsRow, standIns := [], harness := (true, "16f50036a596b48d2c9e80b6ecdc805067e7d5c18ef00953ebf20eb9dbe01811"), looks := true }, kinds := [], alts := [], laidByText := true, laidKinds := [.data, .data, .pinned], laidTests := true, laidLooks := .later }
def ModelExistsCardSaid : Prop := Claim7.holds Tryd.pinned (.plain (OpenSpec.ofChange modelExistsSpec)) modelExistsCard

/-- THE TIED CARD OF 'sentinellaw16.ModelBound'. -/
def modelBoundCard : Claim7 := { stood := { row := modelBoundRow, standIns := [], harness := (true, "16f50036a596b48d2c9e80b6ecdc805067e7d5c18ef00953ebf20eb9dbe01811"), looks := true }, kinds := [], alts := [], laidByText := true, laidKinds := [.data, .data, .pinned], laidTests := true, laidLooks := .later }
def ModelBoundCardSaid : Prop := Claim7.holds Tryd.pinned (.plain (OpenSpec.ofChange modelBoundSpec)) modelBoundCard

/-- THE TIED CARD OF 'sentinellaw16.ModelBoolean'. -/
def modelBooleanCard : Claim7 := { stood := { row := modelBooleanRow, standIns := [], harness := (true, "16f50036a596b48d2c9e80b6ecdc805067e7d5c18ef00953ebf20eb9dbe01811"), looks := true }, kinds := [], alts := [], laidByText := true, laidKinds := [.data, .data, .pinned], laidTests := true, laidLooks := .later }
def ModelBooleanCardSaid : Prop := Claim7.holds Tryd.pinned (.plain (OpenSpec.ofChange modelBooleanSpec)) modelBooleanCard

/-- THE TIED CARD OF 'sentinellaw16.ModelMirror'. -/
def modelMirrorCard : Claim7 := { stood := { row := modelMirrorRow, standIns := [], harness := (true, "16f50036a596b48d2c9e80b6ecdc805067e7d5c18ef00953ebf20eb9dbe01811"), looks := true }, kinds := [], alts := [], laidByText := true, laidKinds := [.data, .data, .pinned], laidTests := true, laidLooks := .later }
def ModelMirrorCardSaid : Prop := Claim7.holds Tryd.pinned (.plain (OpenSpec.ofChange modelMirrorSpec)) modelMirrorCard

/-- THE SECOND FORM's CARD OF 'sentinellaw14.MsoExamples'. -/
def msoExamplesUptoCard : Claim7 := { stood := { row := msoExamplesUptoRow, standIns := [], harness := (true, "16f50036a596b48d2c9e80b6ecdc805067e7d5c18ef00953ebf20eb9dbe01811"), looks := true }, kinds := [], alts := [], laidByText := true, laidKinds := [.data, .pinned], laidTests := true, laidLooks := .later }
def MsoExamplesUptoCardSaid : Prop := Claim7.holds Tryd.pinned (.plain (OpenSpec.upto msoExamplesSpec)) msoExamplesUptoCard

/-- THE SECOND FORM's CARD OF 'sentinellaw16.ModelWords'. -/
def modelWordsUptoCard : Claim7 := { stood := { row := modelWordsUptoRow, standIns := [], harness := (true, "16f50036a596b48d2c9e80b6ecdc805067e7d5c18ef00953ebf20eb9dbe01811"), looks := true }, kinds := [], alts := [], laidByText := true, laidKinds := [.data, .data, .pinned], laidTests := true, laidLooks := .later }
def ModelWordsUptoCardSaid : Prop := Claim7.holds Tryd.pinned (.plain (OpenSpec.upto modelWordsSpec)) modelWordsUptoCard

/-- THE SECOND FORM's CARD OF 'sentinellaw16.ModelTrees'. -/
def modelTreesUptoCard : Claim7 := { stood := { row := modelTreesUptoRow, standIns := [], harness := (true, "16f50036a596b48d2c9e80b6ecdc805067e7d5c18ef00953ebf20eb9dbe01811"), looks := true }, kinds := [], alts := [], laidByText := true, laidKinds := [.data, .data, .pinned], laidTests := true, laidLooks := .later }
def ModelTreesUptoCardSaid : Prop := Claim7.holds Tryd.pinned (.plain (OpenSpec.upto modelTreesSpec)) modelTreesUptoCard

/-- THE SECOND FORM's CARD OF 'sentinellaw16.ModelExamples'. -/
def modelExamplesUptoCard : Claim7 := { stood := { row := modelExamplesUptoRow, standIns := [], harness := (true, "16f50036a596b48d2c9e80b6ecdc805067e7d5c18ef00953ebf20eb9dbe01811"), looks := true }, kinds := [], alts := [], laidByText := true, laidKinds := [.data, .data, .pinned], laidTests := true, laidLooks := .later }
def ModelExamplesUptoCardSaid : Prop := Claim7.holds Tryd.pinned (.plain (OpenSpec.upto modelExamplesSpec)) modelExamplesUptoCard

/-- THE SECOND FORM's CARD OF 'sentinellaw16.ModelOrder'. -/
def modelOrderUptoCard : Claim7 := { stood := { row := modelOrderUptoRow, standIns := [], harness := (true, "16f50036a596b48d2c9e80b6ecdc805067e7d5c18ef00953ebf20eb9dbe01811"), looks := true }, kinds := [], alts := [], laidByText := true, laidKinds := [.data, .data, .pinned], laidTests := true, laidLooks := .later }
def ModelOrderUptoCardSaid : Prop := Claim7.holds Tryd.pinned (.plain (OpenSpec.upto modelOrderSpec)) modelOrderUptoCard

/-- THE SECOND FORM's CARD OF 'sentinellaw16.ModelPaths'. -/
def modelPathsUptoCard : Claim7 := { stood := { row := modelPathsUptoRow, standIns := [], harness := (true, "16f50036a596b48d2c9e80b6ecdc805067e7d5c18ef00953ebf20eb9dbe01811"), looks := true }, kinds := [], alts := [], laidByText := true, laidKinds := [.data, .data, .pinned], laidTests := true, laidLooks := .later }
def ModelPathsUptoCardSaid : Prop := Claim7.holds Tryd.pinned (.plain (OpenSpec.upto modelPathsSpec)) modelPathsUptoCard

/-- THE SECOND FORM's CARD OF 'sentinellaw16.ModelExists'. -/
def modelExistsUptoCard : Claim7 := { stood := { row := modelExistsUptoRow, standIns := [], harness := (true, "16f50036a596b48d2c9e80b6ecdc805067e7d5c18ef00953ebf20eb9dbe01811"), looks := true }, kinds := [], alts := [], laidByText := true, laidKinds := [.data, .data, .pinned], laidTests := true, laidLooks := .later }
def ModelExistsUptoCardSaid : Prop := Claim7.holds Tryd.pinned (.plain (OpenSpec.upto modelExistsSpec)) modelExistsUptoCard

/-- THE SECOND FORM's CARD OF 'sentinellaw16.ModelBound'. -/
def modelBoundUptoCard : Claim7 := { stood := { row := modelBoundUptoRow, standIns := [], harness := (true, "16f50036a596b48d2c9e80b6ecdc805067e7d5c18ef00953ebf20eb9dbe01811"), looks := true }, kinds := [], alts := [], laidByText := true, laidKinds := [.data, .data, .pinned], laidTests := true, laidLooks := .later }
def ModelBoundUptoCardSaid : Prop := Claim7.holds Tryd.pinned (.plain (OpenSpec.upto modelBoundSpec)) modelBoundUptoCard

/-- THE SECOND FORM's CARD OF 'sentinellaw16.ModelBoolean'. -/
def modelBooleanUptoCard : Claim7 := { stood := { row := modelBooleanUptoRow, standIns := [], harness := (true, "16f50036a596b48d2c9e80b6ecdc805067e7d5c18ef00953ebf20eb9dbe01811"), looks := true }, kinds := [], alts := [], laidByText := true, laidKinds := [.data, .data, .pinned], laidTests := true, laidLooks := .later }
def ModelBooleanUptoCardSaid : Prop := Claim7.holds Tryd.pinned (.plain (OpenSpec.upto modelBooleanSpec)) modelBooleanUptoCard

/-- THE SECOND FORM's CARD OF 'sentinellaw16.ModelMirror'. -/
def modelMirrorUptoCard : Claim7 := { stood := { row := modelMirrorUptoRow, standIns := [], harness := (true, "16f50036a596b48d2c9e80b6ecdc805067e7d5c18ef00953ebf20eb9dbe01811"), looks := true }, kinds := [], alts := [], laidByText := true, laidKinds := [.data, .data, .pinned], laidTests := true, laidLooks := .later }
def ModelMirrorUptoCardSaid : Prop := Claim7.holds Tryd.pinned (.plain (OpenSpec.upto modelMirrorSpec)) modelMirrorUptoCard
end Rows
end Go.Proofs.YtdlibehffgfhlaaDoor
